/- An evaluator for resolved code, proved against the model: part 2. -/
import Derived.Test.YtoiokbmgdcaaoaaFxA
import Derived.Deep.AppendSrc
import Derived.Deep.Upon
import Derived.Laws.StructEq
import Derived.OrdersIn
import Derived.TacticsIn
import Derived.Sort.LoopGhostIn
import Derived.Scope
namespace Go.Fx
open Go Go.RowKit Go.Lib
section
variable {P:Program} {g:Gh} {d:Nat} {w:World} {fr:Fr} {st:St} {a:Act}
theorem PR_of {ps:List (Nat×Operand)} (h:∀ p ∈ ps,RS g d (fr.ev p.2) (a.eval p.2)):(∀ p ∈ ps,(fr.ev p.2).solid = true)→PR g (ps.map fun p=>(p.1,fr.ev p.2)) (ps.map fun p=>(p.1,a.eval p.2)):=by
 intro hs
 induction ps with
 | nil=>exact .nil
 | cons p ps ih =>
   refine .cons p.1 _ _ _ _ ?_ (ih (fun q hq=>h q (by simp [hq])) (fun q hq=>hs q (by simp [hq])))
   refine (h p (by simp)).r fun s o e=>?_
   have:=hs p (by simp)
   rw [e] at this
   simp [AV.solid,AV.cells,AV.solid1] at this
theorem np {k:Nat}:∀ {ps:List (Nat×AV)} {es:List AV} {K:List AV→Prop},(eT k ps es).wp K→∀ p ∈ ps,p.2.solid = true
 | [],_,_,_=>by simp
 | (i, v) :: r, es, K, h => by
   simp only [eT] at h
   split at h
   ·rename_i hc
    intro p hp
    rcases List.mem_cons.1 hp with rfl | hp
    ·exact hc.2.2
    ·exact np h p hp
   ·exact h.elim
theorem gk {place:Nat→Option (Nat×Nat)}:∀ {ps:List (Nat×AV)} {es:List AV} {K:List AV→Prop},(br place ps es).wp K→∀ p ∈ ps,p.2.solid = true
 | [],_,_,_=>by simp
 | (i, v) :: r, es, K, h => by
   simp only [br] at h
   split at h
   ·split at h
    ·rename_i hc
     intro p hp
     rcases List.mem_cons.1 hp with rfl | hp
     ·exact hc.2.2
     ·exact gk h p hp
    ·exact h.elim
   ·exact h.elim
theorem dF {b:Builtin} {args:Array Operand} {ts:Array TypeId} {dst:Option Tmp} {ty:TypeId} {pos:String} {after:Array Edge} {gd:Option (Nat×Bool)} {s:Sem Value}
  (h:∀ cs,builtin b ts ty cs (args.map a.eval) = (do pure (.value (← s)))) {u:Value} {w':World} (hr:s.run P w = .ok u w') :
  (execOp a.eval ⟨dst,.call ⟨.builtin b,args,ts⟩,ty,pos,after,gd⟩).run P w = .ok (.value u) w':=by
 simp only [execOp,resolve,Sem.run_bind,Sem.run_pure,Result.andThen_ok,invoke]
 rw [h]
 exact aA hr
theorem rB {isl:Bool} {len cap cap':Nat} (hcap:cap≤cap') {mx hi lo:Option AV} {umx uhi ulo:Option Value} (hmx:∀ v,mx = some v→∃ u,umx = some u∧RS g d v u) (hmxn:mx = none→umx = none∧cap = cap')
  (hhi:∀ v,hi = some v→∃ u,uhi = some u∧RS g d v u) (hhin:hi = none→uhi = none) (hlo:∀ v,lo = some v→∃ u,ulo = some u∧RS g d v u) (hlon:lo = none→ulo = none)
  {f:Nat→Nat→Nat→Res AV} {K:AV→Prop} (h:(sl3 mx hi lo len cap f).wp K) :
  ∃ l h m,(f l h m).wp K∧l≤h∧(mx.isSome = true→h≤m∧m≤cap)∧∀ w,(Instr.sliceBounds isl len cap' ulo uhi umx).run P w = .ok (l,h,m) w:=by
 unfold sl3 at h
 split at h
 ·obtain ⟨rfl,rfl⟩:=hmxn rfl
  rw [Res.wp_bind] at h
  rcases dE hhi hhin h with ⟨hn,h⟩ | ⟨q,i,j,hn,h0,h1,hj,h⟩
  ·rw [Res.wp_bind] at h
   rcases dE hlo hlon h with ⟨hn',h⟩ | ⟨q',i',j',hn',h0',h1',hj',h⟩
   ·exact ⟨0,len,cap,h,Nat.zero_le _,(fun e=>by cases e),fun w=>by simp [Instr.sliceBounds,hn,hn']⟩
   ·exact ⟨j',len,cap,h,by omega,(fun e=>by cases e),fun w=>by simp [Instr.sliceBounds,hn,hn',run_sliceBound w q' i' len _ h0' h1',hj']⟩
  ·rw [Res.wp_bind] at h
   rcases dE hlo hlon h with ⟨hn',h⟩ | ⟨q',i',j',hn',h0',h1',hj',h⟩
   ·exact ⟨0,j,cap,h,Nat.zero_le _,(fun e=>by cases e),fun w=>by simp [Instr.sliceBounds,hn,hn',run_sliceBound w q i cap _ h0 h1,hj]⟩
   ·exact ⟨j',j,cap,h,by omega,(fun e=>by cases e),fun w=>by simp [Instr.sliceBounds,hn,hn',run_sliceBound w q i cap _ h0 h1,run_sliceBound w q' i' j _ h0' h1',hj,hj']⟩
 ·rename_i mx
  split at h
  ·exact h.elim
  ·rename_i hi
   rw [Res.wp_bind] at h
   rcases dE (o:=some mx) (ou:=umx) (fun v e=>hmx v e) (fun e=>by cases e) h with ⟨hn,h⟩ | ⟨q,i,j,hn,h0,h1,hj,h⟩
   ·obtain ⟨u,hu,_⟩:=hmx mx rfl
    rw [hn] at hu; cases hu
   ·rw [Res.wp_bind] at h
    rcases dE (o:=some hi) (ou:=uhi) (fun v e=>hhi v e) (fun e=>by cases e) h with ⟨hn2,h⟩ | ⟨q2,i2,j2,hn2,h02,h12,hj2,h⟩
    ·obtain ⟨u,hu,_⟩:=hhi hi rfl
     rw [hn2] at hu; cases hu
    ·rw [Res.wp_bind] at h
     have hic:i≤(cap':Int):=by omega
     rcases dE hlo hlon h with ⟨hn',h⟩ | ⟨q',i',j',hn',h0',h1',hj',h⟩
     ·exact ⟨0,j2,j,h,Nat.zero_le _,fun _=>⟨by omega,by omega⟩,fun w=>by simp [Instr.sliceBounds,hn,hn2,hn',run_sliceBound w q i cap' _ h0 hic,run_sliceBound w q2 i2 j _ h02 h12,hj,hj2]⟩
     ·exact ⟨j',j2,j,h,by omega,fun _=>⟨by omega,by omega⟩,fun w=>by simp [Instr.sliceBounds,hn,hn2,hn',run_sliceBound w q i cap' _ h0 hic,run_sliceBound w q2 i2 j _ h02 h12,run_sliceBound w q' i' j2 _ h0' h1',hj,hj2,hj']⟩
theorem R.shrink {g:Gh} {o:Bool} {k:Nat} {es:List AV} {a:Option Addr} {n c c':Nat} (h:R g (.sl o k es) (.slice a n c)) (h1:n≤c') (h2:c'≤c):R g (.sl o k es) (.slice a n c'):=by
 cases h with
 | sl _ _ _ us b o c hc hk q1 q2 q3=>exact .sl _ k es us b o c' h1 hk q1 q2 q3
 | slE _ _ a c=>exact .slE _ k a c'
 | slN _ _=>rw [Nat.le_zero.1 h2]; exact .slN _ k
theorem OwnV.cap0 {g:Gh} {w:World} {N:Nat} {mk:Nat→Loc} {k:Nat} (x:Option Addr):OwnV g w N mk (.sl true k []) (.slice x 0 0):=by
 intro i c y hc hy
 cases i with
 | succ i=>simp [AV.cells] at hc
 | zero =>
   simp [AV.cells] at hc
   simp [Value.cells] at hy
   subst hc; subst hy
   exact Own.of_sl fun k' es' e=>by cases e; exact .inl ⟨rfl,_,rfl⟩
theorem mG {o:Oper} {N:Nat} (hN:N≤w.heap.size) (hc:Ctx g d w N fr st) (hev:∀ x ∈ o.op.operands,RS g d (fr.ev x) (a.eval x)) (L:Nat→Loc) {K:AV→Prop} (h:(popR P o.op fr st).wp K) :
  ∃ v,K v∧Yld P o a g w N d L v:=by
 obtain ⟨dst,op,ty,pos,after,gd⟩:=o
 simp only at hev h
 cases op with
 | move x =>
   exact ⟨_,h,Yld.same (by simp [execOp]) (hev x (by simp [Op.operands])).dis (aq _)⟩
 | assign x =>
   exact ⟨_,h,Yld.same (by simp [execOp]) (hev x (by simp [Op.operands])).dis (aq _)⟩
 | pick c x y =>
   simp only [popR] at h
   have h1:=hev c (by simp [Op.operands])
   have h2:=hev x (by simp [Op.operands])
   have h3:=hev y (by simp [Op.operands])
   split at h
   ·rename_i t ht
    rw [ht] at h1
    have e:=h1.lit_inv.1
    refine ⟨_,h,?_⟩
    cases t
    ·exact Yld.same (u:=a.eval y) (by simp [execOp,e,asBool]) (by simpa using h3.dis) (by simpa using aq _)
    ·exact Yld.same (u:=a.eval x) (by simp [execOp,e,asBool]) (by simpa using h2.dis) (by simpa using aq _)
   ·exact h.elim
 | binOp op t x y yt =>
   obtain ⟨v,u,h,hf,rfl,hr⟩:=pi x y (hev x (by simp [Op.operands])) (hev y (by simp [Op.operands])) h
   refine ⟨_,h,Yld.same (u:=u) ?_ (R.lit _ hf) (cx _)⟩
   simp only [execOp]
   refine aA ?_
   rw [Sem.run_bind,(hr w).1]
   exact (hr w).2
 | unOp op t x =>
   obtain ⟨v,h,hf,hr⟩:=pop_unA (P:=P) (hev x (by simp [Op.operands])) h
   exact ⟨_,h,Yld.same (u:=v) (by simp only [execOp]; exact aA (hr w)) (R.lit _ hf) (cx _)⟩
 | convert s t x =>
   obtain ⟨v,h,u,g',w',hr,hle,hR,h1,h2⟩:=conv_run hc.good hc.box (hev x (by simp [Op.operands])) h
   exact ⟨_,h,u,g',w',by simp only [execOp]; exact aA hr,hle,RS.of hR,fun i c x hc' _=>Own.of_no (ae h1 h2 i c hc')⟩
 | extract x i =>
   simp only [popR] at h
   have h1:=hev x (by simp [Op.operands])
   split at h
   ·rename_i vs hvs
    rw [Res.wp_bind,ak] at h
    obtain ⟨v,hv,h⟩:=h
    rw [hvs] at h1
    have h1:R g (.tup vs) (a.eval x):=h1
    generalize hu:a.eval x = u at h1
    cases h1 with
    | tup _ us hsz hR =>
      have hlt:i < us.size:=by rw [hsz]; exact (List.getElem?_eq_some_iff.1 hv).1
      exact ⟨_,h,Yld.same (u:=us[i]) (by simp only [execOp]; refine aA ?_; simp [hu,Instr.extract,hlt]) (RS.of (hR i v us[i] hv (by simp [hlt])).dis) (aq _)⟩
   ·exact h.elim
 | field t x i =>
   simp only [popR] at h
   have h1:=hev x (by simp [Op.operands])
   split at h
   ·rename_i f cs hf hcs
    rw [hcs] at h1
    rw [Res.wp_bind] at h
    obtain ⟨v,h,u',hr,hR⟩:=pop_field hf h1 h
    exact ⟨_,h,Yld.same (u:=u') (by simp only [execOp]; exact aA (hr w)) (RS.of hR.dis) (aq _)⟩
   ·exact h.elim
 | fieldAddr t x i =>
   simp only [popR] at h
   have h1:=hev x (by simp [Op.operands])
   split at h
   ·rename_i f hf
    split at h
    ·exact h.elim
    ·rename_i hz
     obtain ⟨v,h,u',hr,hR,h2,h3⟩:=qm hf hz h1 h
     exact ⟨_,h,Yld.same (u:=u') (by simp only [execOp]; exact aA (hr w)) hR (ae h2 h3)⟩
   ·exact h.elim
 | indexAddr t x i =>
   simp only [popR] at h
   have h1:=hev x (by simp [Op.operands])
   have h2:=hev i (by simp [Op.operands])
   split at h
   ·rename_i e own k es hu hx
    rw [hx] at h1
    split at h
    ·rename_i hk
     obtain ⟨v,h,u',hr,hR,h3,h4⟩:=jp hu hk h1 h2 h
     exact ⟨_,h,Yld.same (u:=u') (by simp only [execOp]; exact aA (hr w)) hR (ae h3 h4)⟩
    ·exact h.elim
   ·rename_i e id k off len cap hu hx
    rw [hx] at h1
    split at h
    ·rename_i hk
     rw [Res.wp_bind] at h
     obtain ⟨q,i',j,hi,h0,h1',hj,hjl,h⟩:=pj h2 h
     have h1:R g (.bs id k off len cap) (a.eval x):=h1
     generalize hux:a.eval x = ux at h1
     cases h1 with
     | bs _ _ _ _ _ b hb =>
       refine ⟨_,h,Yld.same (u:=.pointer (some ⟨b,off + j * k,none⟩)) ?_ (RS.of (R.ptr _ _ _ hb)) (ae (by simp) trivial)⟩
       simp only [execOp]
       refine aA ?_
       rw [hux,hi]
       simp [Instr.indexAt,asIntOf,run_underlying hu,h0,h1',aS hk w,bf,hj]
    ·exact h.elim
   ·rename_i n e hu
    rw [Res.wp_bind] at h
    obtain ⟨q,i',j,hi,h0,h1',hj,hjl,h⟩:=pj h2 h
    rw [Res.wp_bind,ak] at h
    obtain ⟨k,hk,h⟩:=h
    obtain ⟨v,h,u',hr,hR,h3,h4⟩:=jq hu hk h1 h2 ⟨q,i',hi,h0,h1',hj⟩ h
    exact ⟨_,h,Yld.same (u:=u') (by simp only [execOp]; exact aA (hr w)) hR (ae h3 h4)⟩
   ·exact h.elim
 | index t x i =>
   simp only [popR] at h
   have h1:=hev x (by simp [Op.operands])
   have h2:=hev i (by simp [Op.operands])
   split at h
   ·rename_i s hu hx
    rw [hx] at h1
    obtain ⟨v,h,hf,hr⟩:=mB hu h2 h
    exact ⟨_,h,Yld.same (u:=v) (by simp only [execOp,h1.lit_inv.1]; exact aA (hr w)) (R.lit _ hf) (cx _)⟩
   ·rename_i n e cs hu hx
    rw [hx] at h1
    rw [Res.wp_bind] at h
    obtain ⟨q,i',j,hi,h0,h1',hj,hjl,h⟩:=pj h2 h
    rw [Res.wp_bind,ak] at h
    obtain ⟨k,hk,h⟩:=h
    rw [Res.wp_bind] at h
    obtain ⟨v,h,u',hr,hR⟩:=nD hu hk h1 h2 ⟨q,i',hi,h0,h1',hj⟩ h
    exact ⟨_,h,Yld.same (u:=u') (by simp only [execOp]; exact aA (hr w)) (RS.of hR.dis) (aq _)⟩
   ·exact h.elim
 | load t x =>
   simp only [popR] at h
   rw [Res.wp_bind] at h
   obtain ⟨cs,h,b,o,hu,xs,hxs⟩:=qv hc (hev x (by simp [Op.operands])) h
   rw [Res.wp_bind] at h
   obtain ⟨v,h,u',hr,hR⟩:=take_run (P:=P) hxs h
   exact ⟨_,h,Yld.same (u:=u') (by simp only [execOp]; refine aA ?_; simp [Instr.loadAt,Instr.sureAddr,hu,hr]) (RS.of hR.dis) (aq _)⟩
 | nilCheck x =>
   simp only [popR] at h
   have h1:=hev x (by simp [Op.operands])
   split at h
   ·rename_i p q hx
    rw [hx] at h1
    refine ⟨_,h,Yld.same (u:=a.eval x) ?_ h1 (ae (by simp) trivial)⟩
    generalize hu:a.eval x = u at h1
    cases h1
    simp [execOp,hu]
   ·rename_i p q hx
    rw [hx] at h1
    refine ⟨_,h,Yld.same (u:=a.eval x) ?_ h1 (ae (by simp) trivial)⟩
    obtain ⟨b,_,hu⟩:=h1
    simp [execOp,hu]
   ·rename_i cs hx
    rw [hx] at h1
    refine ⟨_,h,Yld.same (u:=a.eval x) ?_ h1 (ae (by simp) trivial)⟩
    generalize hu:a.eval x = u at h1
    cases h1
    simp [execOp,hu]
   ·exact h.elim
 | slice t x lo hi mx =>
   simp only [popR] at h
   have h1:=hev x (by simp [Op.operands])
   have hlo:∀ v,lo.map fr.ev = some v→∃ u,lo.map a.eval = some u∧RS g d v u:=by
    intro v hv
    cases lo with
    | none=>simp at hv
    | some l=>simp at hv; subst hv; exact ⟨_,rfl,hev l (by simp [Op.operands])⟩
   have hlon:lo.map fr.ev = none→lo.map a.eval = none:=by cases lo <;> simp
   have hhi:∀ v,hi.map fr.ev = some v→∃ u,hi.map a.eval = some u∧RS g d v u:=by
    intro v hv
    cases hi with
    | none=>simp at hv
    | some l=>simp at hv; subst hv; exact ⟨_,rfl,hev l (by simp [Op.operands])⟩
   have hhin:hi.map fr.ev = none→hi.map a.eval = none:=by cases hi <;> simp
   obtain ⟨mxx,hmxx⟩:∃ q,q = mx:=⟨_,rfl⟩
   split at h
   ·rename_i e own k es hu hx
    rw [hx] at h1
    split at h
    ·rename_i hk
     have h1:R g (.sl own k es) (a.eval x):=h1
     have hcap:∃ ad n m,a.eval x = .slice ad n m∧n = es.length∧n≤m:=by
      obtain ⟨ad,n,m,h2,h3,h4,_⟩:=qA h1 (Nat.le_refl 0) (Nat.zero_le _) (b:=0) (o:=0) (c:=0)
      exact ⟨ad,n,m,h2,h3,h4⟩
     obtain ⟨ad,n,m,hux,hn,hnm⟩:=hcap
     obtain ⟨l,h',hK,hlh,hhl,hr⟩:=gg (P:=P) (isSlice:=true) (len:=es.length) (cap:=m) (by omega) hlo hlon hhi hhin (K:=fun p=>K (.sl false k ((es.take p.2).drop p.1)))
      (by rw [Res.wp_bind] at h ⊢; refine Res.wp_mono h fun q hq=>?_; rw [Res.wp_bind] at hq ⊢; exact hq)
     obtain ⟨ad',n',m',hux',_,_,hR⟩:=qA h1 hlh hhl (b:=0) (o:=0) (c:=0)
     rw [hux] at hux'
     cases hux'
     refine ⟨_,hK,Yld.same (u:=_) ?_ (RS.of hR) (ae (by simp) trivial)⟩
     simp only [execOp]
     refine aA ?_
     rw [hux]
     subst hn
     have hrw:=hr w
     simp [Instr.sliceAt,run_underlying hu,Instr.slice,hrw,aS hk w]
    ·exact h.elim
   ·rename_i e hu hx
    rw [hx] at h1
    split at h
    case isFalse=>exact h.elim
    rename_i hsome
    obtain ⟨l,h',hK,hlh,hhl,hr⟩:=gg (P:=P) (isSlice:=true) (len:=0) (cap:=0) (Nat.le_refl _) hlo hlon hhi hhin (K:=fun p=>K (.lit (.slice none 0 0)))
      (by rw [Res.wp_bind] at h ⊢; refine Res.wp_mono h fun q hq=>?_; rw [Res.wp_bind] at hq ⊢; exact hq)
    have hl0:l = 0:=by omega
    have hh0:h' = 0:=by omega
    subst hl0; subst hh0
    cases hsz:szT P e with
    | none=>simp [hsz] at hsome
    | some k =>
      refine ⟨_,hK,Yld.same (u:=.slice none 0 0) ?_ (R.lit _ rfl) (cx _)⟩
      simp only [execOp]
      refine aA ?_
      rw [h1.lit_inv.1]
      have hrw:=hr w
      simp [Instr.sliceAt,run_underlying hu,Instr.slice,hrw,aS hsz w]
   ·rename_i e id k off len cap hu hx
    subst hmxx
    rw [hx] at h1
    split at h
    case isFalse=>exact h.elim
    rename_i hk
    have h1:R g (.bs id k off len cap) (a.eval x):=h1
    have hmx:∀ v,mxx.map fr.ev = some v→∃ u,mxx.map a.eval = some u∧RS g d v u:=by
     intro v hv
     cases mxx with
     | none=>simp at hv
     | some l=>simp at hv; subst hv; exact ⟨_,rfl,hev l (by simp [Op.operands])⟩
    have hmxn:mxx.map fr.ev = none→mxx.map a.eval = none:=by cases mxx <;> simp
    obtain ⟨l,h',m,h,hlh,_,hr⟩:=rB (P:=P) (isl:=true) (Nat.le_refl cap) hmx (fun e=>⟨hmxn e,rfl⟩) hhi hhin hlo hlon h
    generalize hux:a.eval x = ux at h1
    cases h1 with
    | bs _ _ _ _ _ b hb =>
      have hrun:(execOp a.eval ⟨dst,.slice t x lo hi mxx,ty,pos,after,gd⟩).run P w = .ok (.value (.slice (if m = l then some ⟨b,off,none⟩ else some ⟨b,off + l * k,none⟩) (h' - l) (m - l))) w:=by
       simp only [execOp]
       refine aA ?_
       rw [hux]
       have hrw:=hr w
       simp [Instr.sliceAt,run_underlying hu,Instr.slice,hrw,aS hk w,bf]
      split at h
      ·rename_i hml
       subst hml
       rw [if_pos rfl] at hrun
       split at h
       case isFalse=>exact h.elim
       rename_i hz
       subst hz
       rw [Nat.sub_self] at hrun
       exact ⟨_,h,_,g,w,hrun,LeP.refl g w,RS.of (R.slE true k _ 0),OwnV.cap0 _⟩
      ·rename_i hml
       rw [if_neg hml] at hrun
       exact ⟨_,h,Yld.same hrun (RS.of (R.bs id k (off + l * k) (h' - l) (m - l) b hb)) (ae (by simp) trivial)⟩
   ·rename_i e own k es mx' hu hx
    rw [hx] at h1
    split at h
    case isFalse=>exact h.elim
    rename_i hk
    have h1:R g (.sl own k es) (a.eval x):=h1
    obtain ⟨ad,n,m0,hux,hn,hnm,_⟩:=qA h1 (Nat.le_refl 0) (Nat.zero_le _) (b:=0) (o:=0) (c:=0)
    subst hn
    obtain ⟨l,h',m,h,hlh,hhm,hr⟩:=rB (P:=P) (isl:=true) (cap':=m0) (umx:=some (a.eval mx')) hnm (fun v hv=>by cases hv; exact ⟨_,rfl,hev mx' (by simp [Op.operands])⟩) (fun e=>by cases e) hhi hhin hlo hlon h
    obtain ⟨hhm,hmc⟩:=hhm rfl
    have hrun:(execOp a.eval ⟨dst,.slice t x lo hi (some mx'),ty,pos,after,gd⟩).run P w = .ok (.value (.slice (if m = l then ad else ad.map (·.add (l * k))) (h' - l) (m - l))) w:=by
     simp only [execOp]
     refine aA ?_
     rw [hux]
     have hrw:=hr w
     simp [Instr.sliceAt,run_underlying hu,Instr.slice,hrw,aS hk w]
    split at h
    ·rename_i hml
     subst hml
     rw [if_pos rfl] at hrun
     have hz:h' - m = 0:=by omega
     rw [hz,Nat.sub_self] at hrun
     refine ⟨_,h,_,g,w,hrun,LeP.refl g w,RS.of ?_,OwnV.cap0 _⟩
     cases ad with
     | none=>exact R.slN true k
     | some ad=>exact R.slE true k _ 0
    ·rename_i hml
     rw [if_neg hml] at hrun
     refine ⟨_,h,Yld.same hrun (RS.of ?_) (ae (by simp) trivial)⟩
     obtain ⟨ad',n',m',hux',_,_,hR⟩:=qA h1 hlh (Nat.le_trans hhm hmc) (b:=0) (o:=0) (c:=0)
     rw [hux] at hux'
     cases hux'
     rw [if_neg (by omega)] at hR
     exact hR.shrink (by omega) (by omega)
   ·rename_i s hu hx
    rw [hx] at h1
    obtain ⟨l,h',hK,hlh,hhl,hr⟩:=gg (P:=P) (isSlice:=false) (len:=s.size) (cap:=s.size) (Nat.le_refl _) hlo hlon hhi hhin (K:=fun p=>K (.lit (.string (s.extract p.1 p.2))))
      (by rw [Res.wp_bind] at h ⊢; refine Res.wp_mono h fun q hq=>?_; rw [Res.wp_bind] at hq ⊢; exact hq)
    refine ⟨_,hK,Yld.same (u:=.string (s.extract l h')) ?_ (R.lit _ rfl) (cx _)⟩
    simp only [execOp]
    refine aA ?_
    rw [h1.lit_inv.1]
    have hrw:=hr w
    simp [Instr.sliceAt,run_underlying hu,Instr.slice,hrw]
   ·exact h.elim
 | buildSlice t len parts =>
   simp only [popR] at h
   split at h
   ·rename_i e hu
    split at h
    ·rename_i k hk
     split at h
     ·rename_i hcond
      have hps:∀ p ∈ parts.toList,RS g d (fr.ev p.2) (a.eval p.2):=fun p hp=>hev p.2 (by simp only [Op.operands]; simp; exact ⟨p.1,by simpa using hp⟩)
      have hsolid:∀ p ∈ parts.toList,(fr.ev p.2).solid = true:=by
       have h':=h
       rw [Res.wp_bind] at h'
       obtain ⟨z,h',_⟩:=bC (g:=g) h'
       split at h'
       ·rw [Res.wp_bind] at h'
        intro p hp
        exact np h' (p.1,fr.ev p.2) (by simp; exact ⟨p.1,p.2,by simpa using hp,rfl,rfl⟩)
       ·exact h'.elim
      obtain ⟨v,h,u,g',w',hr,hle,hR,hO⟩:=pm (PR_of hps hsolid) hu hk hcond.1 hcond.2 L h hc.good hN
      refine ⟨_,h,u,g',w',?_,hle,RS.of hR,hO⟩
      simp only [execOp]
      refine aA ?_
      have:(parts.map fun x=>match x with | (i,x)=>(i,a.eval x)) = (parts.toList.map fun p=>(p.1,a.eval p.2)).toArray:=by
       apply Array.ext'; simp
      rw [this]
      exact hr
     ·exact h.elim
    ·exact h.elim
   ·exact h.elim
 | build t parts =>
   simp only [popR] at h
   have hps:∀ p ∈ parts.toList,RS g d (fr.ev p.2) (a.eval p.2):=fun p hp=>hev p.2 (by simp only [Op.operands]; simp; exact ⟨p.1,by simpa using hp⟩)
   have hsolid:∀ p ∈ parts.toList,(fr.ev p.2).solid = true:=by
    have h':=h
    intro p hp
    split at h'
    ·rw [Res.wp_bind,ak] at h'
     obtain ⟨_,_,h'⟩:=h'
     rw [Res.wp_bind] at h'
     obtain ⟨z,h',_⟩:=bC (g:=g) h'
     rw [Res.wp_bind] at h'
     exact gk h' (p.1,fr.ev p.2) (by simp; exact ⟨p.1,p.2,by simpa using hp,rfl,rfl⟩)
    ·rw [Res.wp_bind] at h'
     obtain ⟨z,h',_⟩:=bC (g:=g) h'
     rw [Res.wp_bind,ak] at h'
     obtain ⟨_,_,h'⟩:=h'
     rw [Res.wp_bind] at h'
     exact gk h' (p.1,fr.ev p.2) (by simp; exact ⟨p.1,p.2,by simpa using hp,rfl,rfl⟩)
    ·exact h'.elim
   obtain ⟨v,h,u,hr,hR,hno⟩:=pop_build (P:=P) (PR_of hps hsolid) h
   refine ⟨_,h,Yld.same (u:=u) ?_ (RS.of hR) hno⟩
   simp only [execOp]
   refine aA ?_
   have:(parts.map fun x=>match x with | (i,x)=>(i,a.eval x)) = (parts.toList.map fun p=>(p.1,a.eval p.2)).toArray:=by
    apply Array.ext'; simp
   rw [this]
   exact hr w
 | lookup t m k ok =>
   obtain ⟨v,h,u,hr,hR,hno⟩:=lookup_run hc (hev m (by simp [Op.operands])) (hev k (by simp [Op.operands])) h
   exact ⟨_,h,Yld.same (u:=u) (by simp only [execOp]; exact aA hr) (RS.of hR) hno⟩
 | makeInterface t x =>
   simp only [popR] at h
   have h1:=hev x (by simp [Op.operands])
   split at h
   ·exact h.elim
   ·rename_i dd hu hne
    split at h
    case isFalse=>exact h.elim
    rename_i hs
    have h1:R g (fr.ev x) (a.eval x):=h1.r fun s o e=>by rw [e] at hs; simp [AV.solid1] at hs
    refine ⟨_,h,Yld.same (u:=.iface t (a.eval x)) ?_ (RS.of (R.ifc t _ _ h1.dis)) (ae (by simp) trivial)⟩
    simp only [execOp]
    refine aA ?_
    unfold Instr.makeInterface
    rw [Sem.run_bind,run_underlying hne]
    simp only [Result.andThen_ok]
    cases dd <;> first | rfl | exact absurd hne (hu _)
   ·exact h.elim
 | typeAssert x xt t ok =>
   cases ok with
   | true=>exact h.elim
   | false =>
     simp only [popR] at h
     have h1:=hev x (by simp [Op.operands])
     split at h
     ·exact h.elim
     ·rename_i dd t' v hu hne hx
      rw [hx] at h1
      split at h
      case isFalse=>exact h.elim
      rename_i ht
      subst ht
      have h1:R g (.ifc t' v) (a.eval x):=h1
      generalize hux:a.eval x = ux at h1
      cases h1 with
      | ifc _ _ u hr =>
        refine ⟨_,h,Yld.same (u:=u) ?_ (RS.of hr.dis) (aq _)⟩
        simp only [execOp]
        refine aA ?_
        rw [hux]
        unfold Instr.typeAssert
        rw [Sem.run_bind,run_underlying hne]
        simp only [Result.andThen_ok]
        cases dd <;> first | simp | exact absurd hne (hu _)
     ·exact h.elim
 | makeFunc f first cap =>
   simp only [popR] at h
   split at h
   ·rename_i hs
    rw [List.all_append,Bool.and_eq_true] at hs
    have hs1:=List.all_eq_true.1 hs.1
    have hs2:=List.all_eq_true.1 hs.2
    refine ⟨_,h,Yld.same (u:=.func f (first.map a.eval) (cap.map a.eval)) ?_ (RS.of (.fn _ _ _ _ _ (by simp) (by simp) (fun i x u hx hu=>?_) (fun i x u hx hu=>?_))) (ae (by simp) trivial)⟩
    ·simp [execOp,Instr.makeFunc]
    ·simp only [List.getElem?_map,Option.map_eq_some_iff] at hx
     obtain ⟨q,hq,rfl⟩:=hx
     have hq':first[i]? = some q:=by simpa using hq
     simp [hq'] at hu
     subst hu
     refine (hev q (by simp [Op.operands]; exact .inl (Array.mem_of_getElem? hq'))).r fun s o e=>?_
     have:=hs1 (fr.ev q) (by simp; exact ⟨q,Array.mem_of_getElem? hq',rfl⟩)
     rw [e] at this
     simp [AV.solid1] at this
    ·simp only [List.getElem?_map,Option.map_eq_some_iff] at hx
     obtain ⟨q,hq,rfl⟩:=hx
     have hq':cap[i]? = some q:=by simpa using hq
     simp [hq'] at hu
     subst hu
     refine (hev q (by simp [Op.operands]; exact .inr (Array.mem_of_getElem? hq'))).r fun s o e=>?_
     have:=hs2 (fr.ev q) (by simp; exact ⟨q,Array.mem_of_getElem? hq',rfl⟩)
     rw [e] at this
     simp [AV.solid1] at this
   ·exact h.elim
 | call c =>
   obtain ⟨callee,args,ts⟩:=c
   cases callee with
   | builtin b =>
     simp only [popR] at h
     have hev':∀ x ∈ args.toList,RS g d (fr.ev x) (a.eval x):=fun x hx=>hev x (by simp [Op.operands,Call.operands]; simpa using hx)
     split at h
     ·rename_i x t ha ht
      have ha':args = #[x]:=by apply Array.ext'; simpa using ha
      have ht':ts = #[t]:=by apply Array.ext'; simpa using ht
      subst ha'; subst ht'
      obtain ⟨v,h,hf,hr⟩:=len_run (ty:=ty) hc (hev' x (by simp)) h
      exact ⟨_,h,Yld.same (u:=v) (dF (s:=Builtin.len_ #[t] ty #[a.eval x]) (fun _=>by simp [builtin]) hr) (R.lit _ hf) (cx _)⟩
     ·rename_i x y ha
      have ha':args = #[x,y]:=by apply Array.ext'; simpa using ha
      subst ha'
      obtain ⟨v,h,hf,k,p,q,e1,e2,rfl⟩:=po (hev' x (by simp)) (hev' y (by simp)) h
      exact ⟨_,h,Yld.same (u:=_) (dF (s:=Builtin.min_ ts ty #[a.eval x,a.eval y]) (fun _=>by simp [builtin]) (by simp [Builtin.min_,Builtin.min2,e1,e2])) (R.lit _ hf) (cx _)⟩
     ·rename_i x y ha
      have ha':args = #[x,y]:=by apply Array.ext'; simpa using ha
      subst ha'
      obtain ⟨v,h,hf,k,p,q,e1,e2,rfl⟩:=po (hev' x (by simp)) (hev' y (by simp)) h
      exact ⟨_,h,Yld.same (u:=_) (dF (s:=Builtin.max_ ts ty #[a.eval x,a.eval y]) (fun _=>by simp [builtin]) (by simp [Builtin.max_,Builtin.max2,e1,e2])) (R.lit _ hf) (cx _)⟩
     ·rename_i x y t t2 ha ht
      have ha':args = #[x,y]:=by apply Array.ext'; simpa using ha
      have ht':ts = #[t,t2]:=by apply Array.ext'; simpa using ht
      subst ha'; subst ht'
      obtain ⟨v,h,u,g',w',hr,hle,hR,hO⟩:=append_run (ty:=ty) hc.good hc.box hN (hev' x (by simp)) (hev' y (by simp)) L h
      exact ⟨_,h,u,g',w',dF (s:=Builtin.append_ #[t,t2] ty #[a.eval x,a.eval y]) (fun _=>by simp [builtin]) hr,hle,RS.of hR,hO⟩
     ·exact h.elim
   | value f=>exact h.elim
   | invoke r m=>exact h.elim
 | _=>exact h.elim
end
end Go.Fx
namespace Go.Fx
open Go Go.RowKit Go.Lib
def ft (d:Nat):Cls→Prop
 | .box _=>False
 | .loc d' _=>d' < d
 | .arr (.slot d' _ _)=>d' < d
 | .arr (.lbox d' _ _)=>d' < d
 | .arr (.box _ _)=>False
theorem ft.mono {d d':Nat} (h:d≤d') {c:Cls} (hc:ft d c):ft d' c:=by
 cases c with
 | box _=>exact hc
 | loc a b=>exact Nat.lt_of_lt_of_le hc h
 | arr L=>cases L <;> first | exact hc.elim | exact Nat.lt_of_lt_of_le hc h
structure Mv (m:Bool) (N d:Nat) (g:Gh) (w:World) (g':Gh) (w':World):Prop where
 os:w'.os = w.os
 tape:w'.tape = w.tape
 output:w'.output = w.output
 size:w.heap.size≤w'.heap.size
 base:g'.base = g.base
 low:∀ b,b < g.base→w'.heap[b]? = w.heap[b]?
 imm:∀ b o u,g.imm b o = some u→g'.imm b o = some u
 bx:∀ id b,g.bx id = some b→g'.bx id = some b
 lb:∀ d',d' < d→g'.lb d' = g.lb d'
 outer:∀ b c,g.cls b = some c→ft d c→g'.cls b = some c∧w'.heap[b]? = w.heap[b]?∧g'.imm b = g.imm b
 pure:m = true→(∀ b,b < N→w'.heap[b]? = w.heap[b]?∧g'.imm b = g.imm b∧g'.cls b = g.cls b)∧g'.bx = g.bx
 good:Good g' w'
theorem Mv.refl {m:Bool} {N d:Nat} {g:Gh} {w:World} (h:Good g w):Mv m N d g w g w :=
 ⟨rfl,rfl,rfl,Nat.le_refl _,rfl,fun _ _=>rfl,fun _ _ _ h=>h,fun _ _ h=>h,fun _ _=>rfl,fun _ _ h _=>⟨h,rfl,rfl⟩,fun _=>⟨fun _ _=>⟨rfl,rfl,rfl⟩,rfl⟩,h⟩
theorem Mv.trans {m:Bool} {N d:Nat} {g1 g2 g3:Gh} {w1 w2 w3:World} (h:Mv m N d g1 w1 g2 w2) (k:Mv m N d g2 w2 g3 w3):Mv m N d g1 w1 g3 w3:=by
 refine ⟨k.os.trans h.os,k.tape.trans h.tape,k.output.trans h.output,Nat.le_trans h.size k.size,k.base.trans h.base,fun b hb=>?_,fun b o u e=>k.imm _ _ _ (h.imm _ _ _ e),fun id b e=>k.bx _ _ (h.bx _ _ e),
  fun d' hd=>(k.lb d' hd).trans (h.lb d' hd),fun b c hc ho=>?_,fun hm=>?_,k.good⟩
 ·exact (k.low b (by rw [h.base]; exact hb)).trans (h.low b hb)
 ·obtain ⟨a1,a2,a3⟩:=h.outer b c hc ho
  obtain ⟨b1,b2,b3⟩:=k.outer b c a1 ho
  exact ⟨b1,b2.trans a2,b3.trans a3⟩
 ·obtain ⟨h1,h2⟩:=h.pure hm
  obtain ⟨k1,k2⟩:=k.pure hm
  exact ⟨fun b hb=>⟨(k1 b hb).1.trans (h1 b hb).1,(k1 b hb).2.1.trans (h1 b hb).2.1,(k1 b hb).2.2.trans (h1 b hb).2.2⟩,k2.trans h2⟩
theorem LeP.mv {m:Bool} {N d:Nat} {g g':Gh} {w w':World} (h:LeP g w g' w') (hg:Good g w) (hN:N≤w.heap.size):Mv m N d g w g' w':=by
 refine ⟨h.below.os,h.below.tape,h.below.output,h.below.size,h.base,fun b hb=>h.below.block b (Nat.lt_of_lt_of_le hb hg.base),(h.ghle hg).imm,(h.ghle hg).bx,fun d' _=>by rw [h.lb],fun b c hc _=>?_,fun _=>⟨fun b hb=>?_,h.bx⟩,h.good hg⟩
 ·have hb:=(hg.cls b c hc).2
  exact ⟨by rw [h.cls b hb]; exact hc,h.below.block b hb,h.imm b hb⟩
 ·have hb':=Nat.lt_of_lt_of_le hb hN
  exact ⟨h.below.block b hb',h.imm b hb',h.cls b hb'⟩
theorem Mv.inner {N d d':Nat} {g g':Gh} {w w':World} (h:Mv false N d' g w g' w') (hd:d≤d'):Mv false 0 d g w g' w' :=
 ⟨h.os,h.tape,h.output,h.size,h.base,h.low,h.imm,h.bx,fun q hq=>h.lb q (Nat.lt_of_lt_of_le hq hd),fun b c hc ho=>h.outer b c hc (ho.mono hd),(fun e=>by cases e),h.good⟩
theorem Mv.ghle {m:Bool} {N d:Nat} {g g':Gh} {w w':World} (h:Mv m N d g w g' w'):GhLe g g':=⟨h.imm,h.bx⟩
theorem Own.mv {m:Bool} {N N' d:Nat} {g g':Gh} {w w':World} {L:Loc} {a:AV} {u:Value} (h:Mv m N d g w g' w') (hL:ft d (.arr L)) (ho:Own g w N' L a u):Own g' w' N' L a u:=by
 refine ⟨fun k es e=>?_,fun id s l stp e=>?_⟩
 ·rcases ho.1 k es e with h0 | ⟨b,o,c,cur,T,h1,hN,h2,h3,h4,h5,h6⟩
  ·exact .inl h0
  obtain ⟨q1,q2,q3⟩:=h.outer b _ h2 hL
  exact .inr ⟨b,o,c,cur,T,h1,hN,q1,by rw [q2]; exact h3,h4,h5,fun j hj hj'=>by rw [q3]; exact h6 j hj hj'⟩
 ·obtain ⟨b,mb,sp,h1,hN,h2,h3,h4,h5⟩:=ho.2 id s l stp e
  obtain ⟨q1,q2,q3⟩:=h.outer b _ h2 hL
  exact ⟨b,mb,sp,h1,hN,q1,by rw [q2]; exact h3,h4,h5.mono h.bx⟩
theorem OwnV.mv {m:Bool} {N N' d:Nat} {g g':Gh} {w w':World} {mk:Nat→Loc} {a:AV} {u:Value} (h:Mv m N d g w g' w') (hL:∀ k,ft d (.arr (mk k))) (ho:OwnV g w N' mk a u):OwnV g' w' N' mk a u :=
 fun i c x hc hx=>(ho i c x hc hx).mv h (hL i)
theorem RS.mv {m:Bool} {N d d':Nat} {g g':Gh} {w w':World} {a:AV} {u:Value} (h:Mv m N d g w g' w') (hd:d' < d) (hr:RS g d' a u):RS g' d' a u:=by
 cases a with
 | lptr s o=>obtain ⟨b,h1,h2⟩:=hr; exact ⟨b,by rw [h.lb d' hd]; exact h1,h2⟩
 | _=>exact RS.of (R.mono h.ghle (v:=_) hr)
theorem LocR.mv {m:Bool} {N N' d d':Nat} {g g':Gh} {w w':World} {locs:List (Nat×List AV)} (h:Mv m N d g w g' w') (hd:d' < d) (hr:LocR g d' w N' locs):LocR g' d' w' N' locs:=by
 intro s cs hs
 obtain ⟨b,us,T,h1,hN,h2,h3,h4,h5⟩:=hr s cs hs
 obtain ⟨q1,q2,q3⟩:=h.outer b _ h2 hd
 exact ⟨b,us,T,by rw [h.lb d' hd]; exact h1,hN,q1,by rw [q2]; exact h3,h4,fun i c x hc hx=>⟨(h5 i c x hc hx).1.mono h.ghle,(h5 i c x hc hx).2.mv h hd⟩⟩
structure Ent where
 d:Nat
 N:Nat
 g:Gh
 w:World
 st:St
 lo:Nat
structure DefsR (E:Ent) (ds:List Deferred):Prop where
 all:∀ x ∈ ds,∃ D dd s,x = { target:=.collected D,args:=#[] }∧E.lo≤D∧E.g.cls D = some (.loc dd s)∧dd < E.d∧E.w.heap[D]? = some (.deferred (some []))
 nd:(ds.map fun x=>x.target).Nodup
theorem DefsR.nil (E:Ent):DefsR E []:=⟨fun _ h=>(by cases h),by simp⟩
structure Ok (m:Bool) (E:Ent) (g:Gh) (w:World) (fr:Fr) (st:St) (a:Act):Prop where
 size:a.tmps.size = fr.slots.length
 slots:∀ (s:Nat) (v:AV) (u:Value),fr.slots[s]? = some v→a.tmps[s]? = some u→RS g E.d v u∧OwnV g w E.N (Loc.slot E.d s) v u
 ctx:Ctx g E.d w E.N fr st
 defers:DefsR E a.defers
 mv:Mv m E.N E.d E.g E.w g w
 pst:m = true→st = E.st
 hN:E.N≤w.heap.size
 hm:m = false→E.N = 0
section
variable {m:Bool} {E:Ent} {g:Gh} {w:World} {fr:Fr} {st:St} {a:Act}
theorem Ok.ev (h:Ok m E g w fr st a) (x:Operand):RS g E.d (fr.ev x) (a.eval x):=by
 cases x with
 | tmp t =>
   simp only [Fr.ev,Act.eval]
   by_cases ht:t < fr.slots.length
   ·have ht':t < a.tmps.size:=by rw [h.size]; exact ht
    have h1:fr.slots[t]? = some (fr.slots.getD t .any):=by simp [List.getD,ht]
    have h2:a.tmps[t]? = some (a.tmps.getD t undef):=by simp [ht']
    exact (h.slots t _ _ h1 h2).1
   ·have:fr.slots.getD t .any = .any:=by simp [List.getD,List.getElem?_eq_none (Nat.le_of_not_lt ht)]
    rw [this]
    exact R.any _
 | const v =>
   simp only [Fr.ev,Act.eval]
   split
   ·rename_i hf; exact R.lit v hf
   ·exact R.any _
 | global q=>exact R.any _
 | func f=>exact R.fn _ [] [] #[] #[] rfl rfl (fun i x u h=>by simp at h) (fun i x u h=>by simp at h)
theorem Ok.put (h:Ok m E g w fr st a) (dst:Option Tmp) {v:AV} {u:Value} (hr:RS g E.d v u) (ho:∀ s,dst = some s→OwnV g w E.N (Loc.slot E.d s) v u):Ok m E g w (fr.put dst v) st (a.put dst u):=by
 cases dst with
 | none=>exact h
 | some s =>
   refine ⟨by simp [Act.put,Fr.put,h.size],fun s' v' u' hv hu=>?_,⟨h.ctx.good,h.ctx.loc,h.ctx.box⟩,h.defers,h.mv,h.pst,h.hN,h.hm⟩
   simp only [Fr.put,List.getElem?_set] at hv
   simp only [Act.put,Array.getElem?_setIfInBounds] at hu
   by_cases e:s = s'
   ·subst e
    by_cases hs:s < fr.slots.length
    ·have hs':s < a.tmps.size:=by rw [h.size]; exact hs
     simp [hs] at hv
     simp [hs'] at hu
     subst hv; subst hu
     exact ⟨hr,ho s rfl⟩
    ·simp [hs] at hv
   ·simp [e] at hv hu
    exact h.slots s' v' u' hv hu
theorem Ok.le {g':Gh} {w':World} (h:Ok m E g w fr st a) (hle:LeP g w g' w'):Ok m E g' w' fr st a:=by
 have hg:=h.ctx.good
 exact ⟨h.size,fun s v u hv hu=>⟨(h.slots s v u hv hu).1.le hle hg,(h.slots s v u hv hu).2.le hle hg⟩,⟨hle.good hg,h.ctx.loc.le hle hg,h.ctx.box.le hle hg⟩,h.defers,h.mv.trans (hle.mv hg h.hN),h.pst,Nat.le_trans h.hN hle.below.size,h.hm⟩
theorem Ok.call {g':Gh} {w':World} {st':St} (h:Ok false E g w fr st a) (hmv:Mv false 0 (E.d + 1) g w g' w') (hb:BoxR g' w' st'):Ok false E g' w' fr st' a:=by
 refine ⟨h.size,fun s v u hv hu=>⟨(h.slots s v u hv hu).1.mv hmv (Nat.lt_succ_self _),(h.slots s v u hv hu).2.mv hmv (fun k=>Nat.lt_succ_self _)⟩,⟨hmv.good,h.ctx.loc.mv hmv (Nat.lt_succ_self _),hb⟩,h.defers,?_,fun e=>(by cases e),Nat.le_trans h.hN hmv.size,h.hm⟩
 have:=h.mv
 have hN:=h.hm rfl
 rw [hN] at this ⊢
 exact this.trans (hmv.inner (Nat.le_succ _))
def ao (ops:Array Oper) (fr:Fr) (o:Oper):Option AV :=
 match o.guard with
 | none=>some (.lit (.bool true))
 | some (j, want) =>
   match (ops[j]?).bind (·.dst) with
   | some t => match fr.slots[t]? with
     | some (.lit (.bool b))=>some (.lit (.bool (b == want)))
     | some (.tup _)=>some (.lit (.bool false))
     | _=>none
   | none=>none
theorem jt {ops:Array Oper} {o:Oper} {b:Bool} (h:Ok m E g w fr st a) (hg:ao ops fr o = some (.lit (.bool b))):Region.wanted o (yielded ops a.tmps) = b:=by
 unfold ao at hg
 unfold Region.wanted
 cases hgd:o.guard with
 | none=>simp [hgd] at hg; simp [hg]
 | some jw =>
   obtain ⟨j,want⟩:=jw
   simp only [hgd] at hg ⊢
   split at hg
   ·rename_i t ht
    split at hg
    ·rename_i b' hb'
     simp at hg
     have hlt:t < a.tmps.size:=by rw [h.size]; exact (List.getElem?_eq_some_iff.1 hb').1
     have h1:a.tmps[t]? = some a.tmps[t]:=Array.getElem?_eq_getElem hlt
     have h2:=(h.slots t _ _ hb' h1).1.lit_inv.1
     have:yielded ops a.tmps j = some b':=by
      unfold yielded
      rw [ht]
      simp only [Option.bind_some,h1,h2]
     rw [this,← hg]
     cases b' <;> cases want <;> rfl
    ·rename_i cs hb'
     simp at hg
     have hlt:t < a.tmps.size:=by rw [h.size]; exact (List.getElem?_eq_some_iff.1 hb').1
     have h1:a.tmps[t]? = some a.tmps[t]:=Array.getElem?_eq_getElem hlt
     have h2:=(h.slots t _ _ hb' h1).1.tup_inv
     have:yielded ops a.tmps j = none:=by
      unfold yielded
      rw [ht]
      obtain ⟨us,h2⟩:=h2
      simp only [Option.bind_some,h1,h2]
     rw [this,hg]
     rfl
    ·cases hg
   ·cases hg
end
end Go.Fx
namespace Go.Fx
open Go Go.RowKit Go.Lib
def kill (s:Nat) (v:AV):AV :=
 match v with
 | .lptr t _=>if t = s then .any else v
 | _=>v
def eW (s:Nat):List (Nat×List AV)→List (Nat×List AV)
 | []=>[]
 | (t,cs)::r=>if t = s then eW s r else (t,cs)::eW s r
def Fr.newLoc (fr:Fr) (s:Nat) (cs:List AV):Fr:={ slots:=(fr.slots.map (kill s)).set s (.lptr s 0),locs:=(s,cs)::eW s fr.locs }
def Fr.setLoc (fr:Fr) (s:Nat) (cs:List AV):Fr:={ fr with locs:=(s,cs)::eW s fr.locs }
def Fr.disAt (fr:Fr) (s:Nat):Fr:={ fr with slots:=fr.slots.set s (fr.slots.getD s .any).dis }
def Fr.disOp (fr:Fr) (x:Operand):Fr:=match x with | .tmp s=>fr.disAt s | _=>fr
def Fr.evOwn (fr:Fr) (x:Operand):AV:=match x with | .tmp s=>fr.slots.getD s .any | x=>(fr.ev x).dis
def nE (all:List Oper) (t:Tmp):Bool :=
 all.any fun o=>match o.op with
  | .call { callee:=.builtin .append,args,.. }=>match args.toList with | .tmp t'::_=>t' == t | _=>false
  | .slice _ (.tmp t') _ none none=>t' == t && all.any fun p=>match p.op with
    | .store _ _ (.tmp t2)=>o.dst == some t2
    | .assign (.tmp t2)=>o.dst == some t2
    | _=>false
  | _=>false
section
variable (P:Program)
def putR (o:Oper) (fr:Fr) (st:St):Res (Fr×St):=(popR P o.op fr st).bind fun v=>.ok (fr.put o.dst v,st)
def rC (m:Bool) (fr:Fr) (st:St) (addr:AV) (vs:List AV):Res (Fr×St) :=
 match addr with
 | .lptr s off=>(Res.ofOpt (look s fr.locs)).bind fun cs=>if off + vs.length≤cs.length then .ok (fr.setLoc s (aG cs off vs),st) else .fail
 | .ptr id off=>if m then .fail else (Res.ofOpt (st.get id)).bind fun cs=>if off + vs.length≤cs.length then .ok (fr,st.set id (aG cs off vs)) else .fail
 | _=>.fail
def dv (st:St) (t t2:TypeId) (base x:AV):Res AV :=
 match P.underlying t,P.underlying t2 with
 | some (.slice e), some dd =>
   match P.info? e with
   | some i =>
     if srcT dd = true∧0 < i.size∧(i.zero.map (·.cells.size)) = some i.size then
      match base with
      | .sl true k es=>if k = i.size then (srcA st k x).bind fun new=>.req (fM (es.length + new.length) i.bytes) (.ok (.sl true k (es++new.map AV.dis))) else .fail
      | _=>.fail
     else .fail
   | none=>.fail
 | _,_=>.fail
def updA (key v:AV):Option (Nat×AV)→List (AV×AV)→List (AV×AV)
 | some (i,_),es=>es.set i (key,v)
 | none,es=>es++[(key,v)]
def St.delM (st:St) (id:Nat) (es:List (AV×AV)) (i:Nat):St:=st.setM id (es.eraseIdx i) ((st.getB id).1.eraseIdx i) (st.getB id).2
def St.updM (st:St) (id:Nat) (es:List (AV×AV)) (key v:AV) (r:Option (Nat×AV)):St :=
 match r with
 | some _=>st.setM id (updA key v r es) (st.getB id).1 (st.getB id).2
 | none=>st.setM id (updA key v none es) ((st.getB id).1++[(st.getB id).2]) ((st.getB id).2 + 1)
def db (m:Bool) (heap:Nat→Bool) (all:List Oper) (o:Oper) (fr:Fr) (st:St):Res (Fr×St) :=
 match o.op,o.dst with
 | .alloc t,some s=>(eR P t).bind fun z =>
   if heap s then (if m then .fail else .ok (fr.put (some s) (.ptr st.boxes.length 0),st.push (.cells z.cells)))
   else .ok (fr.newLoc s z.cells,st)
 | .box t x,some s =>
   let v:=fr.evOwn x
   if v.solid = true∧szT P t = some v.cells.length then
    if heap s then (if m then .fail else .ok ((fr.disOp x).put (some s) (.ptr st.boxes.length 0),st.push (.cells v.cells)))
    else .ok (fr.newLoc s v.dis.cells,st)
   else .fail
 | .store t addr x,none =>
   let v:=fr.evOwn x
   if v.solid = true∧szT P t = some v.cells.length then rC m (fr.disOp x) st (fr.ev addr) v.cells else .fail
 | .assign (.tmp sx),some sd=>if sx = sd then .fail else .ok ((fr.disAt sx).put (some sd) (fr.slots.getD sx .any),st)
 | .move (.tmp sx),some sd=>if sx≠sd∧nE all sd = true then .ok ((fr.disAt sx).put (some sd) (fr.slots.getD sx .any),st) else putR P o fr st
 | .load t addr,some sd =>
   if nE all sd = true∧aw P t = false∧szT P t = some 1∧(P.underlying t).isSome then
    match fr.ev addr with
    | .lptr s off=>(Res.ofOpt (look s fr.locs)).bind fun cs=>match cs[off]? with
      | some (.sl true k es)=>.ok ((fr.setLoc s (cs.set off (.sl false k es))).put (some sd) (.sl true k es),st)
      | _=>putR P o fr st
    | .ptr id off=>if m then putR P o fr st else (Res.ofOpt (st.get id)).bind fun cs=>match cs[off]? with
      | some (.sl true k es)=>.ok (fr.put (some sd) (.sl true k es),st.set id (cs.set off (.sl false k es)))
      | _=>putR P o fr st
    | _=>putR P o fr st
   else putR P o fr st
 | .slice t (.tmp sx) (some lo) none none,some sd =>
   match P.underlying t,fr.slots.getD sx .any with
   | some (.slice e),.sl true k es=>if sx≠sd∧szT P e = some k then (ixTo (some (fr.ev lo)) 0 es.length).bind fun l=>.ok ((fr.disAt sx).put (some sd) (.sl true k (es.drop l)),st) else .fail
   | _,_=>putR P o fr st
 | .call { callee:=.builtin .append,args,argTypes },some sd =>
   match args.toList,argTypes.toList with
   | [.tmp sx, y], [t, t2] => match fr.slots.getD sx .any with
     | .sl true k es=>if sx = sd then .fail else (dv P st t t2 (.sl true k es) (fr.ev y)).bind fun v=>.ok ((fr.disAt sx).put (some sd) v,st)
     | _=>putR P o fr st
   | _,_=>putR P o fr st
 | .call { callee:=.builtin .delete,args,argTypes },none =>
   match args.toList,argTypes.toList with
   | [mp, k], t :: _ => match P.underlying t with
     | some (.map kt _)=>if dD P kt (fr.ev k) = true∧m = false then
       match fr.ev mp with
       | .map id=>(Res.ofOpt (st.getM id)).bind fun es=>(bU (fr.ev k) es 0).bind fun r=>match r with
         | some (i,_)=>.ok (fr,st.delM id es i)
         | none=>.ok (fr,st)
       | _=>.fail
      else .fail
     | _=>.fail
   | _,_=>.fail
 | .makeMap _ none,some s=>if m then .fail else .ok (fr.put (some s) (.map st.boxes.length),st.push (.mp [] [] 0))
 | .mapUpdate t mp k x,none =>
   match P.underlying t with
   | some (.map kt _)=>if dD P kt (fr.ev k) = true∧m = false∧(fr.ev x).solid = true then
     match fr.ev mp with
     | .map id=>(Res.ofOpt (st.getM id)).bind fun es=>(bU (fr.ev k) es 0).bind fun r=>.ok (fr,st.updM id es (fr.ev k) (fr.ev x).dis r)
     | _=>.fail
    else .fail
   | _=>.fail
 | _,_=>putR P o fr st
end
end Go.Fx
namespace Go.Fx
open Go Go.RowKit Go.Lib
def LocE (g:Gh) (d:Nat) (w:World) (N s:Nat) (cs:List AV):Prop :=
 ∃ b us T,g.lb d s = some b∧N≤b∧g.cls b = some (.loc d s)∧w.heap[b]? = some (.cells us T (0,0))∧us.size = cs.length ∧
  ∀ (i:Nat) (c:AV) (x:Value),cs[i]? = some c→us[i]? = some x→R g c x∧Own g w N (.lbox d s i) c x
def BoxE (g:Gh) (w:World) (id:Nat) (cs:List AV):Prop :=
 ∃ b us T,g.bx id = some b∧g.cls b = some (.box id)∧w.heap[b]? = some (.cells us T (0,0))∧us.size = cs.length ∧
  (∀ (i:Nat) (c:AV) (x:Value),cs[i]? = some c→us[i]? = some x→R g c x∧Own g w 0 (.box id i) c x)∧∀ x ∈ us,x.oneCell' = true
structure Ch (X:Loc→Prop) (ls nl bi:Option Nat) (d:Nat) (g:Gh) (w:World) (g':Gh) (w':World):Prop where
 ghle:GhLe g g'
 keep:∀ b c,g.cls b = some c→(∀ L,c = .arr L→¬ X L)→(∀ s,c = .loc d s→ls≠some s)→(∀ id,c = .box id→bi≠some id)→g'.cls b = some c∧w'.heap[b]? = w.heap[b]?∧g'.imm b = g.imm b
 lb:∀ s,nl≠some s→g'.lb d s = g.lb d s
section
variable {X:Loc→Prop} {ls nl bi:Option Nat} {d N:Nat} {g g':Gh} {w w':World}
theorem Own.ch {M:Nat} {L:Loc} {a:AV} {u:Value} (h:Ch X ls nl bi d g w g' w') (hL:¬ X L) (ho:Own g w M L a u):Own g' w' M L a u:=by
 refine ⟨fun k es e=>?_,fun id s l stp e=>?_⟩
 ·rcases ho.1 k es e with h0 | ⟨b,o,c,cur,T,h1,hN,h2,h3,h4,h5,h6⟩
  ·exact .inl h0
  obtain ⟨q1,q2,q3⟩:=h.keep b _ h2 (fun L' e=>by cases e; exact hL) (fun s e=>by cases e) (fun id e=>by cases e)
  exact .inr ⟨b,o,c,cur,T,h1,hN,q1,by rw [q2]; exact h3,h4,h5,fun j hj hj'=>by rw [q3]; exact h6 j hj hj'⟩
 ·obtain ⟨b,mb,sp,h1,hN,h2,h3,h4,h5⟩:=ho.2 id s l stp e
  obtain ⟨q1,q2,q3⟩:=h.keep b _ h2 (fun L' e=>by cases e; exact hL) (fun s e=>by cases e) (fun id e=>by cases e)
  exact ⟨b,mb,sp,h1,hN,q1,by rw [q2]; exact h3,h4,h5.mono h.ghle.bx⟩
theorem Own.ch' {M:Nat} {L:Loc} {a:AV} {u:Value} (h:Ch X ls nl bi d g w g' w') (hL:¬ X L∨a.noOwn) (ho:Own g w M L a u):Own g' w' M L a u:=by
 rcases hL with hL | hL
 ·exact ho.ch h hL
 ·exact Own.of_no hL
theorem LocE.ch {s:Nat} {cs:List AV} (h:Ch X ls nl bi d g w g' w') (h1:ls≠some s) (h2:nl≠some s) (hX:∀ (i:Nat) (c:AV),cs[i]? = some c→¬ X (.lbox d s i)∨c.noOwn) (he:LocE g d w N s cs):LocE g' d w' N s cs:=by
 obtain ⟨b,us,T,a1,hN,a2,a3,a4,a5⟩:=he
 obtain ⟨q1,q2,q3⟩:=h.keep b _ a2 (fun L e=>by cases e) (fun s' e=>by cases e; exact h1) (fun id e=>by cases e)
 exact ⟨b,us,T,by rw [h.lb s h2]; exact a1,hN,q1,by rw [q2]; exact a3,a4,fun i c x hc hx=>⟨(a5 i c x hc hx).1.mono h.ghle,(a5 i c x hc hx).2.ch' h (hX i c hc)⟩⟩
theorem BoxE.ch {id:Nat} {cs:List AV} (h:Ch X ls nl bi d g w g' w') (h1:bi≠some id) (hX:∀ (i:Nat) (c:AV),cs[i]? = some c→¬ X (.box id i)∨c.noOwn) (he:BoxE g w id cs):BoxE g' w' id cs:=by
 obtain ⟨b,us,T,a1,a2,a3,a4,a5,a6⟩:=he
 obtain ⟨q1,q2,q3⟩:=h.keep b _ a2 (fun L e=>by cases e) (fun s' e=>by cases e) (fun id e=>by cases e; exact h1)
 exact ⟨b,us,T,h.ghle.bx _ _ a1,q1,by rw [q2]; exact a3,a4,fun i c x hc hx=>⟨(a5 i c x hc hx).1.mono h.ghle,(a5 i c x hc hx).2.ch' h (hX i c hc)⟩,a6⟩
def ObjE (g:Gh) (w:World) (id:Nat) (bx:Box):Prop :=
 ∃ b o,g.bx id = some b∧g.cls b = some (.box id)∧w.heap[b]? = some o∧ObjR g bx o
theorem ObjE.ch {id:Nat} {bx:Box} (h:Ch X ls nl bi d g w g' w') (h1:bi≠some id) (he:ObjE g w id bx):ObjE g' w' id bx:=by
 obtain ⟨b,o,a1,a2,a3,a4⟩:=he
 obtain ⟨q1,q2,q3⟩:=h.keep b _ a2 (fun L e=>by cases e) (fun s' e=>by cases e) (fun id e=>by cases e; exact h1)
 exact ⟨b,o,h.ghle.bx _ _ a1,q1,by rw [q2]; exact a3,a4.mono h.ghle⟩
theorem RS.ch {a:AV} {u:Value} (h:Ch X ls nl bi d g w g' w') (hn:∀ t o,a = .lptr t o→nl≠some t) (hr:RS g d a u):RS g' d a u:=by
 cases a with
 | lptr s o=>obtain ⟨b,h1,h2⟩:=hr; exact ⟨b,by rw [h.lb s (hn s o rfl)]; exact h1,h2⟩
 | _=>exact RS.of (R.mono h.ghle (v:=_) hr)
end
section
variable {m:Bool} {E:Ent} {g g':Gh} {w w':World} {fr fr':Fr} {st st':St} {a a':Act} {X:Loc→Prop} {ls nl bi:Option Nat}
theorem Ok.ch (h:Ok m E g w fr st a) (hmv:Mv m E.N E.d g w g' w') (hch:Ch X ls nl bi E.d g w g' w')
  (hsz:a'.tmps.size = fr'.slots.length) (hdf:DefsR E a'.defers)
  (hs:∀ (s:Nat) (v:AV) (u:Value),fr'.slots[s]? = some v→a'.tmps[s]? = some u→(RS g' E.d v u∧OwnV g' w' E.N (Loc.slot E.d s) v u) ∨
   (fr.slots[s]? = some v∧a.tmps[s]? = some u∧(∀ (i:Nat) (c:AV),v.cells[i]? = some c→¬ X (.slot E.d s i)∨c.noOwn)∧∀ t o,v = .lptr t o→nl≠some t))
  (hl:∀ s cs,look s fr'.locs = some cs→LocE g' E.d w' E.N s cs∨(look s fr.locs = some cs∧ls≠some s∧nl≠some s∧∀ (i:Nat) (c:AV),cs[i]? = some c→¬ X (.lbox E.d s i)∨c.noOwn))
  (hb1:∀ id,st'.boxes.length≤id→g'.bx id = none)
  (hb2:∀ id cs,st'.boxes[id]? = some (some (.cells cs))→BoxE g' w' id cs∨(st.boxes[id]? = some (some (.cells cs))∧bi≠some id∧∀ (i:Nat) (c:AV),cs[i]? = some c→¬ X (.box id i)∨c.noOwn))
  (hb3:∀ id bx,st'.boxes[id]? = some (some bx)→bx.obj = true→ObjE g' w' id bx∨(st.boxes[id]? = some (some bx)∧bi≠some id))
  (hps:m = true→st' = st):Ok m E g' w' fr' st' a':=by
 refine ⟨hsz,fun s v u hv hu=>?_,⟨hmv.good,fun s cs hc=>?_,⟨hb1,fun id cs hc=>?_,fun id bx hc hob=>?_⟩⟩,hdf,h.mv.trans hmv,fun hm=>(hps hm).trans (h.pst hm),Nat.le_trans h.hN hmv.size,h.hm⟩
 ·rcases hs s v u hv hu with h1 | ⟨h1,h2,h3,h4⟩
  ·exact h1
  ·obtain ⟨r1,r2⟩:=h.slots s v u h1 h2
   exact ⟨r1.ch hch h4,fun i c x hc hx=>(r2 i c x hc hx).ch' hch (h3 i c hc)⟩
 ·rcases hl s cs hc with h1 | ⟨h1,h2,h3,h4⟩
  ·exact h1
  ·exact LocE.ch hch h2 h3 h4 (h.ctx.loc s cs h1)
 ·rcases hb2 id cs hc with h1 | ⟨h1,h2,h3⟩
  ·exact h1
  ·exact BoxE.ch hch h2 h3 (h.ctx.box.2.1 id cs h1)
 ·rcases hb3 id bx hc hob with h1 | ⟨h1,h2⟩
  ·exact h1
  ·exact ObjE.ch hch h2 (h.ctx.box.2.2 id bx h1 hob)
theorem Ok.dis (h:Ok m E g w fr st a) (s:Nat):Ok m E g w (fr.disAt s) st a:=by
 refine ⟨by simp [Fr.disAt,h.size],fun s' v u hv hu=>?_,⟨h.ctx.good,h.ctx.loc,h.ctx.box⟩,h.defers,h.mv,h.pst,h.hN,h.hm⟩
 simp only [Fr.disAt,List.getElem?_set] at hv
 by_cases e:s = s'
 ·subst e
  by_cases hs:s < fr.slots.length
  ·simp [hs] at hv
   subst hv
   have h1:fr.slots[s]? = some fr.slots[s]:=by simp [hs]
   have:fr.slots.getD s .any = fr.slots[s]:=by simp [List.getD,hs]
   exact ⟨(h.slots s _ u h1 hu).1.dis,OwnV.dis⟩
  ·simp [hs] at hv
 ·simp [e] at hv
  exact h.slots s' v u hv hu
def Gh.relab (g:Gh) (N:Nat) (ρ:Loc→Loc):Gh :=
 { g with cls:=fun b=>match g.cls b with | some (.arr L)=>some (.arr (if N≤b then ρ L else L)) | c=>c }
theorem pq (g:Gh) (N:Nat) (ρ:Loc→Loc):GhLe g (g.relab N ρ):=⟨fun _ _ _ h=>h,fun _ _ h=>h⟩
theorem hZ (g:Gh) (w:World) (N d:Nat) (ρ:Loc→Loc):Ch (fun L=>ρ L≠L) none none none d g w (g.relab N ρ) w:=by
 refine ⟨pq g N ρ,fun b c hc hX _ _=>⟨?_,rfl,rfl⟩,fun _ _=>rfl⟩
 simp only [Gh.relab,hc]
 cases c with
 | arr L =>
   have:=hX L rfl
   simp only [Decidable.not_not,ne_eq] at this
   simp [this]
 | _=>rfl
theorem relab_good {g:Gh} {w:World} (N:Nat) (ρ:Loc→Loc) (h:Good g w):Good (g.relab N ρ) w:=by
 refine ⟨h.imm,fun b o u hi=>?_,fun b c hc=>?_,h.base⟩
 ·rcases h.immc b o u hi with h1 | ⟨L,h1⟩
  ·exact .inl (by simp [Gh.relab,h1])
  ·exact .inr ⟨if N≤b then ρ L else L,by simp only [Gh.relab,h1]⟩
 ·simp only [Gh.relab] at hc
  cases h1:g.cls b with
  | none=>simp [h1] at hc
  | some c'=>exact h.cls b c' h1
theorem relab_mv {m:Bool} {g:Gh} {w:World} {N d:Nat} {ρ:Loc→Loc} (hg:Good g w) (ho:∀ L,ft d (.arr L)→ρ L = L):Mv m N d g w (g.relab N ρ) w:=by
 refine ⟨rfl,rfl,rfl,Nat.le_refl _,rfl,fun _ _=>rfl,fun _ _ _ h=>h,fun _ _ h=>h,fun _ _=>rfl,fun b c hc hO=>⟨?_,rfl,rfl⟩,fun _=>⟨fun b hb=>⟨rfl,rfl,?_⟩,rfl⟩,relab_good N ρ hg⟩
 ·simp only [Gh.relab,hc]
  cases c with
  | arr L=>simp [ho L hO]
  | _=>rfl
 ·have:¬ N≤b:=Nat.not_le.2 hb
  simp only [Gh.relab,this,if_false]
  split <;> simp_all
theorem Own.relab {g:Gh} {w:World} {N M:Nat} {ρ:Loc→Loc} {L:Loc} {a:AV} {u:Value} (h:Own g w M L a u) (hNM:N≤M):Own (g.relab N ρ) w M (ρ L) a u:=by
 refine ⟨fun k es e=>?_,fun id s l stp e=>?_⟩
 ·rcases h.1 k es e with h0 | ⟨b,o,c,cur,T,h1,hN,h2,h3,h4,h5,h6⟩
  ·exact .inl h0
  exact .inr ⟨b,o,c,cur,T,h1,hN,by simp [Gh.relab,h2,Nat.le_trans hNM hN],h3,h4,h5,h6⟩
 ·obtain ⟨b,mb,sp,h1,hN,h2,h3,h4,h5⟩:=h.2 id s l stp e
  exact ⟨b,mb,sp,h1,hN,by simp [Gh.relab,h2,Nat.le_trans hNM hN],h3,h4,h5⟩
theorem Ok.relab (h:Ok m E g w fr st a) (ρ:Loc→Loc) (ho:∀ L,ft E.d (.arr L)→ρ L = L)
  (h1:∀ (s:Nat) (v:AV),fr.slots[s]? = some v→∀ (i:Nat) (c:AV),v.cells[i]? = some c→ρ (.slot E.d s i) = .slot E.d s i∨c.noOwn)
  (h2:∀ s cs,look s fr.locs = some cs→∀ (i:Nat) (c:AV),cs[i]? = some c→ρ (.lbox E.d s i) = .lbox E.d s i∨c.noOwn)
  (h3:∀ id cs,st.boxes[id]? = some (some (.cells cs))→∀ (i:Nat) (c:AV),cs[i]? = some c→ρ (.box id i) = .box id i∨c.noOwn) :
  Ok m E (g.relab E.N ρ) w fr st a :=
 h.ch (relab_mv h.ctx.good ho) (hZ g w E.N E.d ρ) h.size h.defers
  (fun s v u hv hu=>.inr ⟨hv,hu,fun i c hc=>(h1 s v hv i c hc).imp (fun e=>by simp [e]) id,fun _ _ _=>by simp⟩)
  (fun s cs hc=>.inr ⟨hc,by simp,by simp,fun i c hi=>(h2 s cs hc i c hi).imp (fun e=>by simp [e]) id⟩)
  (fun id hid=>h.ctx.box.1 id hid)
  (fun id cs hc=>.inr ⟨hc,by simp,fun i c hi=>(h3 id cs hc i c hi).imp (fun e=>by simp [e]) (fun h=>h)⟩)
  (fun id bx he _=>.inr ⟨he,by simp⟩) (fun _=>rfl)
end
end Go.Fx
namespace Go.Fx
open Go Go.RowKit Go.Lib
theorem pr (s:Nat):∀ (l:List (Nat×List AV)) (t:Nat),look t (eW s l) = if t = s then none else look t l
 | [],t=>by simp [eW,look]
 | (q, cs) :: r, t => by
   have ih:=pr s r t
   unfold eW
   by_cases h:q = s
   ·subst h
    simp only [if_true,ih,look]
    by_cases h2:t = q
    ·simp [h2]
    ·have:¬ q = t:=fun e=>h2 e.symm
     simp [h2,this]
   ·simp only [h,if_false,look,ih]
    by_cases h2:q = t
    ·subst h2; simp [h]
    ·simp [h2]
theorem fP (s:Nat) (cs:List AV) (l:List (Nat×List AV)) (t:Nat):look t ((s,cs)::eW s l) = if s = t then some cs else look t l:=by
 simp only [look,pr]
 by_cases h:s = t
 ·simp [h]
 ·have:¬ t = s:=fun e=>h e.symm
  simp [h,this]
section
variable {P:Program} {m:Bool} {E:Ent} {g g':Gh} {w w':World} {fr fr':Fr} {st st':St} {a a':Act}
def Stp (P:Program) (o:Oper) (m:Bool) (E:Ent) (w:World) (a:Act) (q:Fr×St):Prop :=
 ∃ u g' w',((execOp a.eval o).run P w = .ok (.value u) w'∨(u = undef∧(execOp a.eval o).run P w = .ok .skip w'))∧Ok m E g' w' q.1 q.2 (a.put o.dst u)
theorem dg {o:Oper} (h:Ok m E g w fr st a) {K:Fr×St→Prop} (hk:(putR P o fr st).wp K):∃ q,K q∧Stp P o m E w a q:=by
 unfold putR at hk
 rw [Res.wp_bind] at hk
 obtain ⟨v,hv,u,g',w',hrun,hle,hr,ho⟩:=mG (P:=P) h.hN h.ctx (fun x _=>h.ev x) (fun k=>match o.dst with | some s=>Loc.slot E.d s k | none=>Loc.slot E.d 0 k) hk
 refine ⟨_,hv,u,g',w',.inl hrun,(h.le hle).put o.dst hr fun s hs=>?_⟩
 rw [hs] at ho
 exact ho
theorem dm (h:Ok m E g w fr st a) (s:Nat):RS g E.d (fr.slots.getD s .any) (a.eval (.tmp s))∧OwnV g w E.N (Loc.slot E.d s) (fr.slots.getD s .any) (a.eval (.tmp s)):=by
 simp only [Act.eval]
 by_cases ht:s < fr.slots.length
 ·have ht':s < a.tmps.size:=by rw [h.size]; exact ht
  have h1:fr.slots[s]? = some (fr.slots.getD s .any):=by simp [List.getD,ht]
  have h2:a.tmps[s]? = some (a.tmps.getD s undef):=by simp [ht']
  exact h.slots s _ _ h1 h2
 ·have:fr.slots.getD s .any = .any:=by simp [List.getD,List.getElem?_eq_none (Nat.le_of_not_lt ht)]
  rw [this]
  exact ⟨R.any _,fun i c x hc _=>Own.of_no (ae (v:=.any) (fun _ e=>by cases e) trivial i c hc)⟩
def dR (d sx:Nat) (mk:Nat→Loc) (L:Loc):Loc :=
 match L with
 | .slot d' s k=>if d' = d∧s = sx then mk k else L
 | _=>L
theorem dis_slot (fr:Fr) (sx s:Nat) {v:AV} (hv:(fr.disAt sx).slots[s]? = some v) (hs:s = sx):∀ (i:Nat) (c:AV),v.cells[i]? = some c→c.noOwn:=by
 subst hs
 simp only [Fr.disAt,List.getElem?_set] at hv
 by_cases hl:s < fr.slots.length
 ·simp [hl] at hv
  subst hv
  exact aq _
 ·simp [hl] at hv
theorem Ok.steal (h:Ok m E g w fr st a) (sx:Nat) (mk:Nat→Loc) :
  Ok m E (g.relab E.N (dR E.d sx mk)) w (fr.disAt sx) st a∧RS (g.relab E.N (dR E.d sx mk)) E.d (fr.slots.getD sx .any) (a.eval (.tmp sx))∧OwnV (g.relab E.N (dR E.d sx mk)) w E.N mk (fr.slots.getD sx .any) (a.eval (.tmp sx)):=by
 obtain ⟨hr,ho⟩:=dm h sx
 refine ⟨(h.dis sx).relab _ (fun L hL=>?_) (fun s v hv i c hc=>?_) (fun s cs _ i c _=>.inl rfl) (fun id cs _ i c _=>.inl rfl),hr.ch (hZ g w E.N E.d _) (fun _ _ _=>by simp),fun i c x hc hx=>?_⟩
 ·cases L with
  | slot d' s k =>
    have:d' < E.d:=hL
    have hne:¬ (d' = E.d∧s = sx):=fun e=>by omega
    simp only [dR,hne,if_false]
  | _=>rfl
 ·by_cases hs:s = sx
  ·exact .inr (dis_slot fr sx s hv hs i c hc)
  ·exact .inl (by simp [dR,hs])
 ·have:=(ho i c x hc hx).relab (ρ:=dR E.d sx mk) (Nat.le_refl E.N)
  simpa [dR] using this
theorem Ok.stealOp (h:Ok m E g w fr st a) (x:Operand) (mk:Nat→Loc) :
  ∃ g',Ok m E g' w (fr.disOp x) st a∧RS g' E.d (fr.evOwn x) (a.eval x)∧OwnV g' w E.N mk (fr.evOwn x) (a.eval x)∧∀ v u,RS g E.d v u→RS g' E.d v u:=by
 cases x with
 | tmp s =>
   obtain ⟨h1,h2,h3⟩:=h.steal s mk
   exact ⟨_,h1,h2,h3,fun v u hr=>hr.ch (hZ g w E.N E.d _) (fun _ _ _=>by simp)⟩
 | const v=>exact ⟨g,h,(h.ev (.const v)).dis,OwnV.dis (a:=fr.ev (.const v)),fun _ _ h=>h⟩
 | global v=>exact ⟨g,h,(h.ev (.global v)).dis,OwnV.dis (a:=fr.ev (.global v)),fun _ _ h=>h⟩
 | func v=>exact ⟨g,h,(h.ev (.func v)).dis,OwnV.dis (a:=fr.ev (.func v)),fun _ _ h=>h⟩
theorem nq {o:Oper} {sx sd:Nat} (hdst:o.dst = some sd) (ho:o.op = .assign (.tmp sx)∨o.op = .move (.tmp sx)) (h:Ok m E g w fr st a) :
  Stp P o m E w a ((fr.disAt sx).put (some sd) (fr.slots.getD sx .any),st):=by
 obtain ⟨h1,h2,h3⟩:=h.steal sx (Loc.slot E.d sd)
 refine ⟨a.eval (.tmp sx),g.relab E.N (dR E.d sx (Loc.slot E.d sd)),w,.inl ?_,?_⟩
 ·rcases ho with ho | ho <;> simp [execOp,ho]
 ·rw [hdst]
  exact h1.put (some sd) h2 fun s hs=>by cases hs; exact h3
theorem Own.drop {N:Nat} {L:Loc} {k l:Nat} {es:List AV} {a:Option Addr} {n c:Nat} (ho:Own g w N L (.sl true k es) (.slice a n c)) (hn:n = es.length) (hl:l≤es.length) :
  Own g w N L (.sl true k (es.drop l)) (.slice (if c = l then a else a.map (·.add (l * k))) (n - l) (c - l)):=by
 refine Own.of_sl fun k' es' e=>?_
 cases e
 rcases ho.1 k es rfl with ⟨rfl,x,hx⟩ | ⟨b,o,c',cur,T,h1,hN,h2,h3,h4,h5,h6⟩
 ·cases hx
  have hl0:l = 0:=by simpa using hl
  subst hl0
  exact .inl ⟨rfl,_,rfl⟩
 refine .inr ?_
 cases h1
 have e1:l + (c - l) = c:=by omega
 have e2:l + (es.length - l) = es.length:=by omega
 by_cases hc:c = l
 ·subst hc
  have:es.length = c:=by omega
  refine ⟨b,o,0,cur,T,by simp,hN,h2,h3,by simp; omega,by simp; omega,fun j hj hj'=>by simp at hj'; omega⟩
 ·refine ⟨b,o + l * k,c - l,cur,T,by simp [hc,bf],hN,h2,h3,?_,by simp; omega,fun j hj hj'=>h6 j ?_ ?_⟩
  ·rw [Nat.add_assoc,← Nat.add_mul,e1]; exact h4
  ·simp only [List.length_drop] at hj
   rw [Nat.add_assoc,← Nat.add_mul,e2] at hj; exact hj
  ·rw [Nat.add_assoc,← Nat.add_mul,e1] at hj'; exact hj'
theorem step_slice {o:Oper} {t e:TypeId} {sx sd k:Nat} {lo:Operand} {es:List AV} (hdst:o.dst = some sd) (ho:o.op = .slice t (.tmp sx) (some lo) none none) (hu:P.underlying t = some (.slice e)) (hk:szT P e = some k)
  (hsl:fr.slots.getD sx .any = .sl true k es) (h:Ok m E g w fr st a) {K:Fr×St→Prop}
  (hK:((ixTo (some (fr.ev lo)) 0 es.length).bind fun l=>.ok ((fr.disAt sx).put (some sd) (.sl true k (es.drop l)),st)).wp K):∃ q,K q∧Stp P o m E w a q:=by
 obtain ⟨h1,h2,h3⟩:=h.steal sx (Loc.slot E.d sd)
 rw [hsl] at h2 h3
 have hsl0:=(dm h sx).1
 rw [hsl] at hsl0
 have hc:∀ {a' n m'},a.eval (.tmp sx) = .slice a' n m'→n≤m'∧n = es.length:=by
  intro a' n m' e
  rw [e] at hsl0
  cases hsl0 <;> simp_all
 have hR:R (g.relab E.N (dR E.d sx (Loc.slot E.d sd))) (.sl true k es) (a.eval (.tmp sx)):=h2
 obtain ⟨ad,n,m',hux,hn,hnm,_⟩:=qA hR (Nat.le_refl 0) (Nat.zero_le _) (b:=0) (o:=0) (c:=0)
 obtain ⟨l,h',⟨hh,hK⟩,hlh,hhl,hr⟩:=gg (P:=P) (g:=g) (d:=E.d) (isSlice:=true) (len:=es.length) (cap:=m') (by omega) (lo:=some (fr.ev lo)) (ulo:=some (a.eval lo)) (hi:=none) (uhi:=none)
  (fun v e=>by cases e; exact ⟨_,rfl,h.ev lo⟩) (fun e=>by cases e) (fun v e=>by cases e) (fun _=>rfl)
  (K:=fun p=>p.2 = es.length∧K ((fr.disAt sx).put (some sd) (.sl true k (es.drop p.1)),st))
  (by simp only [ixTo,Res.bind]; rw [Res.wp_bind] at hK ⊢; exact Res.wp_mono hK fun q hq=>⟨rfl,hq⟩)
 subst hh
 obtain ⟨ad',n',m'',hux',_,_,hR2⟩:=qA hR hlh hhl (b:=0) (o:=0) (c:=0)
 rw [hux] at hux'
 cases hux'
 have ho3:=h3 0 _ _ rfl (by rw [hux]; rfl)
 have ho4:=ho3.drop hn hlh
 refine ⟨_,hK,.slice (if m' = l then ad else ad.map (·.add (l * k))) (es.length - l) (m' - l),g.relab E.N (dR E.d sx (Loc.slot E.d sd)),w,.inl ?_,?_⟩
 ·simp only [execOp,ho]
  refine aA ?_
  rw [hux]
  subst hn
  have hrw:=hr w
  simp [Instr.sliceAt,run_underlying hu,Instr.slice,hrw,aS hk w]
 ·rw [hdst]
  refine h1.put (some sd) (RS.of (by simpa using hR2.own (own':=true))) fun s hs i c x hc hx=>?_
  cases hs
  cases i with
  | succ i=>simp [AV.cells] at hc
  | zero =>
    simp [AV.cells] at hc
    simp [Value.cells] at hx
    subst hc; subst hx
    rw [← hn]; exact ho4
end
end Go.Fx
namespace Go.Fx
open Go Go.RowKit Go.Lib
structure Wr (w:World) (b:Nat) (w':World):Prop where
 os:w'.os = w.os
 tape:w'.tape = w.tape
 output:w'.output = w.output
 size:w'.heap.size = w.heap.size
 other:∀ k,k≠b→w'.heap[k]? = w.heap[k]?
structure Nw (w:World) (o:Obj) (w':World):Prop where
 os:w'.os = w.os
 tape:w'.tape = w.tape
 output:w'.output = w.output
 size:w'.heap.size = w.heap.size + 1
 old:∀ k,k < w.heap.size→w'.heap[k]? = w.heap[k]?
 new:w'.heap[w.heap.size]? = some o
theorem bW (w:World) (o:Obj):Nw w o (w.alloc o):=⟨rfl,rfl,rfl,by simp,fun k hk=>heap_alloc_old w o hk,heap_alloc_new w o⟩
def putC (cs:Array Value):Nat→List Value→Array Value
 | _,[]=>cs
 | o,v::r=>putC (cs.setIfInBounds o v) (o + 1) r
theorem dS:∀ (vs:List Value) (o:Nat) (cs:Array Value),(putC cs o vs).size = cs.size
 | [],_,_=>rfl
 | v::r,o,cs=>by rw [putC,dS r]; simp
theorem ei:∀ (vs:List Value) (o:Nat) (cs:Array Value) (j:Nat),(putC cs o vs)[j]? = if o≤j∧j < o + vs.length∧j < cs.size then vs[j - o]? else cs[j]?
 | [], o, cs, j => by
   have:¬ (o≤j∧j < o + ([]:List Value).length∧j < cs.size):=by simp; omega
   rw [if_neg this]; rfl
 | v :: r, o, cs, j => by
   rw [putC,ei r (o + 1) _ j]
   simp only [Array.size_setIfInBounds,List.length_cons,Array.getElem?_setIfInBounds]
   by_cases h1:o = j
   ·subst h1
    have:¬ (o + 1≤o):=by omega
    by_cases h2:o < cs.size
    ·have h4:o < o + (r.length + 1):=by omega
     rw [if_neg (fun e=>this e.1)]
     simp [h2,h4]
    ·simp [h2]
   ·by_cases h2:o + 1≤j∧j < o + 1 + r.length∧j < cs.size
    ·have h3:o≤j∧j < o + (r.length + 1)∧j < cs.size:=by omega
     rw [if_pos h2,if_pos h3]
     obtain ⟨q,rfl⟩:∃ q,j = o + 1 + q:=⟨j - (o + 1),by omega⟩
     rw [show o + 1 + q - (o + 1) = q by omega,show o + 1 + q - o = q + 1 by omega]
     simp
    ·have h3:¬ (o≤j∧j < o + (r.length + 1)∧j < cs.size):=by omega
     rw [if_neg h2,if_neg h3]
     simp [h1]
theorem putC_one {cs:Array Value} {o:Nat} {vs:List Value} (h1:∀ x ∈ cs,x.oneCell' = true) (h2:∀ x ∈ vs,x.oneCell' = true):∀ x ∈ putC cs o vs,x.oneCell' = true:=by
 intro x hx
 obtain ⟨j,hj⟩:=Array.getElem?_of_mem hx
 rw [ei] at hj
 split at hj
 ·exact h2 x (List.mem_of_getElem? hj)
 ·exact h1 x (Array.mem_of_getElem? hj)
theorem bJ (b:Nat) (T:TypeId) (fr:Nat×Nat):∀ (vs:List Value) (o:Nat) (w:World) (us:Array Value),w.heap[b]? = some (.cells us T fr)→w.setCells b o vs = w.setRow b (putC us o vs)
 | [], _, w, us, h => by
   simp only [World.setCells,putC,World.setRow]
   have hlt:b < w.heap.size:=(Array.getElem?_eq_some_iff.1 h).1
   have hv:w.heap[b] = .cells us T fr:=(Array.getElem?_eq_some_iff.1 h).2
   have:w.heap = w.heap.modify b (fun x=>match x with | .cells _ elem frozen=>.cells us elem frozen | o=>o):=by
    apply Array.ext
    ·simp
    ·intro k h1 h2
     simp only [Array.getElem_modify]
     split
     ·rename_i hk; subst hk; simp [hv]
     ·rfl
   exact congrArg (fun x=>{ w with heap:=x }) this
 | v :: r, o, w, us, h => by
   rw [World.setCells,setCell_eq_setRow w b o us T fr v h,bJ b T fr r (o + 1) _ (us.setIfInBounds o v) (setRow_heap w b us _ T fr h),setRow_setRow,putC]
theorem dU (w:World) (b:Nat) (us:Array Value):Wr w b (w.setRow b us) :=
 ⟨rfl,rfl,rfl,by simp,fun k hk=>setRow_other w b k us hk⟩
section
variable {P:Program} {m:Bool} {d N:Nat} {g g':Gh} {w w':World} {b:Nat} {ls bi:Option Nat}
theorem Wr.mv (hw:Wr w b w') (hg:Good g w) {c:Cls} (hc:g.cls b = some c) (hout:¬ ft d c) (hna:∀ L,c≠.arr L) (hp:m = true→N≤b):Mv m N d g w g w':=by
 have hi:∀ o,g.imm b o = none:=fun o=>by
  cases h:g.imm b o with
  | none=>rfl
  | some u=>rcases hg.immc b o u h with h1 | ⟨L,h1⟩ <;> rw [hc] at h1 <;> cases h1; exact absurd rfl (hna L)
 refine ⟨hw.os,hw.tape,hw.output,Nat.le_of_eq hw.size.symm,rfl,fun k hk=>hw.other k ?_,fun _ _ _ h=>h,fun _ _ h=>h,fun _ _=>rfl,fun k c' hk ho=>⟨hk,hw.other k ?_,rfl⟩,fun hm=>⟨fun k hk=>⟨hw.other k ?_,rfl,rfl⟩,rfl⟩,?_⟩
 ·intro e; subst e; have:=(hg.cls k c hc).1; omega
 ·intro e; subst e; rw [hc] at hk; cases hk; exact hout ho
 ·intro e; subst e; have:=hp hm; omega
 ·refine ⟨fun k o u h=>?_,hg.immc,fun k c' hk=>?_,by rw [hw.size]; exact hg.base⟩
  ·have hne:k≠b:=fun e=>by subst e; rw [hi o] at h; cases h
   have:=hg.imm k o u h
   unfold World.cell? at this ⊢
   rw [hw.other k hne]; exact this
  ·rw [hw.size]; exact hg.cls k c' hk
theorem Wr.ch (hw:Wr w b w') {c:Cls} (hc:g.cls b = some c) (hcc:(∃ s,c = .loc d s∧ls = some s)∨∃ id,c = .box id∧bi = some id):Ch (fun _=>False) ls none bi d g w g w':=by
 refine ⟨GhLe.refl g,fun k c' hk _ h2 h3=>⟨hk,hw.other k ?_,rfl⟩,fun _ _=>rfl⟩
 intro e; subst e
 rw [hc] at hk; cases hk
 rcases hcc with ⟨s,rfl,rfl⟩ | ⟨id,rfl,rfl⟩
 ·exact h2 s rfl rfl
 ·exact h3 id rfl rfl
def Gh.newL (g:Gh) (b d s:Nat):Gh :=
 { g with cls:=fun k=>if k = b then some (.loc d s) else g.cls k,lb:=fun d' s'=>if d' = d∧s' = s then some b else g.lb d' s' }
def Gh.newB (g:Gh) (b id:Nat):Gh :=
 { g with cls:=fun k=>if k = b then some (.box id) else g.cls k,bx:=fun i=>if i = id then some b else g.bx i }
theorem mH (hg:Good g w) {k:Nat} {c:Cls} (h:g.cls k = some c):k≠w.heap.size:=Nat.ne_of_lt (hg.cls k c h).2
theorem Nw.good {o:Obj} (hw:Nw w o w') (hg:Good g w) {c:Cls} {g':Gh} (h1:g'.imm = g.imm) (h2:g'.base = g.base) (h3:∀ k,g'.cls k = if k = w.heap.size then some c else g.cls k):Good g' w':=by
 refine ⟨fun k o u h=>?_,fun k o u h=>?_,fun k c' hk=>?_,?_⟩
 ·rw [h1] at h
  have:=hg.imm k o u h
  unfold World.cell? at this ⊢
  rw [hw.old k (hg.lt h)]; exact this
 ·rw [h1] at h
  rw [h3,if_neg (Nat.ne_of_lt (hg.lt h))]
  exact hg.immc k o u h
 ·rw [h3] at hk
  rw [hw.size,h2]
  split at hk
  ·rename_i e; subst e; exact ⟨hg.base,Nat.lt_succ_self _⟩
  ·have:=hg.cls k c' hk; exact ⟨this.1,by omega⟩
 ·rw [h2,hw.size]; exact Nat.le_succ_of_le hg.base
theorem Nw.mvL {o:Obj} (hw:Nw w o w') (hg:Good g w) (hN:N≤w.heap.size) (s:Nat):Mv m N d g w (g.newL w.heap.size d s) w':=by
 refine ⟨hw.os,hw.tape,hw.output,by rw [hw.size]; omega,rfl,fun k hk=>hw.old k (Nat.lt_of_lt_of_le hk hg.base),fun _ _ _ h=>h,fun _ _ h=>h,fun d' hd=>?_,fun k c hk _=>⟨?_,hw.old k (hg.cls k c hk).2,rfl⟩,
  fun _=>⟨fun k hk=>⟨hw.old k (by omega),rfl,?_⟩,rfl⟩,hw.good hg (c:=.loc d s) rfl rfl (fun _=>rfl)⟩
 ·funext s'
  have:¬ d' = d:=by omega
  simp [Gh.newL,this]
 ·simp [Gh.newL,mH hg hk,hk]
 ·have:k≠w.heap.size:=by omega
  simp [Gh.newL,this]
theorem Nw.chL {o:Obj} (hw:Nw w o w') (hg:Good g w) (s:Nat):Ch (fun _=>False) none (some s) none d g w (g.newL w.heap.size d s) w':=by
 refine ⟨⟨fun _ _ _ h=>h,fun _ _ h=>h⟩,fun k c hk _ _ _=>⟨by simp [Gh.newL,mH hg hk,hk],hw.old k (hg.cls k c hk).2,rfl⟩,fun s' hs=>?_⟩
 have:¬ s' = s:=fun e=>hs (by rw [e])
 simp [Gh.newL,this]
theorem Nw.mvB {o:Obj} (hw:Nw w o w') (hg:Good g w) (id:Nat) (hid:g.bx id = none):Mv false N d g w (g.newB w.heap.size id) w':=by
 refine ⟨hw.os,hw.tape,hw.output,by rw [hw.size]; omega,rfl,fun k hk=>hw.old k (Nat.lt_of_lt_of_le hk hg.base),fun _ _ _ h=>h,fun i b h=>?_,fun d' hd=>rfl,fun k c hk _=>⟨?_,hw.old k (hg.cls k c hk).2,rfl⟩,
  (fun e=>by cases e),hw.good hg (c:=.box id) rfl rfl (fun _=>rfl)⟩
 ·have:¬ i = id:=fun e=>by subst e; rw [hid] at h; cases h
  simp [Gh.newB,this,h]
 ·simp [Gh.newB,mH hg hk,hk]
theorem Nw.chB {o:Obj} (hw:Nw w o w') (hg:Good g w) (id:Nat) (hid:g.bx id = none):Ch (fun _=>False) none none none d g w (g.newB w.heap.size id) w':=by
 refine ⟨⟨fun _ _ _ h=>h,fun i b h=>?_⟩,fun k c hk _ _ _=>⟨by simp [Gh.newB,mH hg hk,hk],hw.old k (hg.cls k c hk).2,rfl⟩,fun s' hs=>rfl⟩
 have:¬ i = id:=fun e=>by subst e; rw [hid] at h; cases h
 simp [Gh.newB,this,h]
end
section
variable {P:Program} {m:Bool} {E:Ent} {g g':Gh} {w w':World} {fr fr':Fr} {st st':St} {a a':Act}
theorem aP {l:List (Option Box)} {x:Option Box} {i:Nat} {y:Option Box} (h:(l++[x])[i]? = some y):(l[i]? = some y)∨(i = l.length∧x = y):=by
 rcases Nat.lt_trichotomy i l.length with h1 | h1 | h1
 ·left; rw [List.getElem?_append_left h1] at h; exact h
 ·right; subst h1; simp at h; exact ⟨rfl,h⟩
 ·rw [List.getElem?_append_right (by omega)] at h
  have:i - l.length≠0:=by omega
  cases hq:i - l.length with
  | zero=>omega
  | succ n=>rw [hq] at h; simp at h
theorem Ok.newL (h:Ok m E g w fr st a) {cs:List AV} {us:Array Value} {T:TypeId} (s:Nat) (hw:Nw w (.cells us T (0,0)) w') (hr:RL g cs us.toList) (hn:∀ (i:Nat) (c:AV),cs[i]? = some c→c.noOwn) :
  Ok m E (g.newL w.heap.size E.d s) w' (fr.newLoc s cs) st (a.put (some s) (.pointer (some ⟨w.heap.size,0,none⟩))):=by
 have hg:=h.ctx.good
 have hch:=Nw.chL (d:=E.d) hw hg s
 have h1:Ok m E (g.newL w.heap.size E.d s) w' { slots:=fr.slots.map (kill s),locs:=(s,cs)::eW s fr.locs } st a:=by
  refine h.ch (hw.mvL hg h.hN s) hch (by simp [h.size]) h.defers (fun t v u hv hu=>?_) (fun t cs' hc=>?_) (fun id hid=>h.ctx.box.1 id hid) (fun id cs hc=>.inr ⟨hc,by simp,fun _ _ _=>.inl (fun e=>e)⟩) (fun id bx he _=>.inr ⟨he,by simp⟩) (fun _=>rfl)
  ·simp only [List.getElem?_map,Option.map_eq_some_iff] at hv
   obtain ⟨v0,hv0,rfl⟩:=hv
   by_cases hk:∃ o,v0 = .lptr s o
   ·obtain ⟨o,rfl⟩:=hk
    left
    simp only [kill,if_true]
    exact ⟨R.any _,fun i c x hc _=>Own.of_no (ae (v:=.any) (fun _ e=>by cases e) trivial i c hc)⟩
   ·have hkk:kill s v0 = v0:=by
     cases v0 <;> first | rfl | skip
     rename_i t' o
     have:¬ t' = s:=fun e=>hk ⟨o,by rw [e]⟩
     simp [kill,this]
    rw [hkk]
    exact .inr ⟨hv0,hu,fun i c _=>.inl (fun e=>e),fun t' o e=>by intro e2; cases e2; exact hk ⟨o,e⟩⟩
  ·rw [fP] at hc
   split at hc
   ·rename_i e; subst e; cases hc
    left
    refine ⟨w.heap.size,us,T,by simp [Gh.newL],h.hN,by simp [Gh.newL],hw.new,by simpa using hr.1,fun i c x hc hx=>⟨(hr.2 i c x hc (by simpa using hx)).mono hch.ghle,Own.of_no (hn i c hc)⟩⟩
   ·rename_i e
    exact .inr ⟨hc,by simp,fun e'=>e (by cases e'; rfl),fun _ _ _=>.inl (fun e=>e)⟩
 exact h1.put (some s) (v:=.lptr s 0) ⟨w.heap.size,by simp [Gh.newL],rfl⟩ (fun _ _ i c x hc _=>Own.of_no (ae (v:=.lptr s 0) (fun _ e=>by cases e) trivial i c hc))
theorem Ok.newB (h:Ok false E g w fr st a) {cs:List AV} {us:Array Value} {T:TypeId} (s:Nat) (hw:Nw w (.cells us T (0,0)) w') (hr:RL g cs us.toList) (hn:∀ (i:Nat) (c:AV) (x:Value),cs[i]? = some c→us[i]? = some x→Own g w 0 (.box st.boxes.length i) c x) (h1c:∀ x ∈ us,x.oneCell' = true) :
  Ok false E (g.newB w.heap.size st.boxes.length) w' (fr.put (some s) (.ptr st.boxes.length 0)) (st.push (.cells cs)) (a.put (some s) (.pointer (some ⟨w.heap.size,0,none⟩))):=by
 have hg:=h.ctx.good
 have hid:=h.ctx.box.1 st.boxes.length (Nat.le_refl _)
 have hch:=Nw.chB (d:=E.d) hw hg _ hid
 have h1:Ok false E (g.newB w.heap.size st.boxes.length) w' fr (st.push (.cells cs)) a:=by
  refine h.ch (hw.mvB hg _ hid) hch h.size h.defers (fun t v u hv hu=>.inr ⟨hv,hu,fun i c _=>.inl (fun e=>e),fun _ _ _=>by simp⟩) (fun t cs' hc=>.inr ⟨hc,by simp,by simp,fun _ _ _=>.inl (fun e=>e)⟩) (fun id hid=>?_) (fun id cs' hc=>?_) (fun id bx he hob=>?_) (fun e=>by cases e)
  ·simp [St.push] at hid
   have:¬ id = st.boxes.length:=by omega
   simp only [Gh.newB,this,if_false]
   exact h.ctx.box.1 id (by omega)
  ·rcases aP hc with h1 | ⟨rfl,h1⟩
   ·exact .inr ⟨h1,by simp,fun _ _ _=>.inl (fun e=>e)⟩
   ·cases h1
    exact .inl ⟨w.heap.size,us,T,by simp [Gh.newB],by simp [Gh.newB],hw.new,by simpa using hr.1,fun i c x hc hx=>⟨(hr.2 i c x hc (by simpa using hx)).mono hch.ghle,(hn i c x hc hx).ch hch (fun e=>e)⟩,h1c⟩
  ·rcases aP he with h1 | ⟨rfl,h1⟩
   ·exact .inr ⟨h1,by simp⟩
   ·cases h1; cases hob
 exact h1.put (some s) (v:=.ptr st.boxes.length 0) (RS.of (R.ptr _ _ _ (by simp [Gh.newB]))) (fun _ _ i c x hc _=>Own.of_no (ae (v:=.ptr st.boxes.length 0) (fun _ e=>by cases e) trivial i c hc))
theorem Ok.newM (h:Ok false E g w fr st a) (s:Nat) (hw:Nw w (.map #[] 0) w') :
  Ok false E (g.newB w.heap.size st.boxes.length) w' (fr.put (some s) (.map st.boxes.length)) (st.push (.mp [] [] 0)) (a.put (some s) (.map (some w.heap.size))):=by
 have hg:=h.ctx.good
 have hid:=h.ctx.box.1 st.boxes.length (Nat.le_refl _)
 have hch:=Nw.chB (d:=E.d) hw hg _ hid
 have h1:Ok false E (g.newB w.heap.size st.boxes.length) w' fr (st.push (.mp [] [] 0)) a:=by
  refine h.ch (hw.mvB hg _ hid) hch h.size h.defers (fun t v u hv hu=>.inr ⟨hv,hu,fun i c _=>.inl (fun e=>e),fun _ _ _=>by simp⟩) (fun t cs' hc=>.inr ⟨hc,by simp,by simp,fun _ _ _=>.inl (fun e=>e)⟩) (fun id hid=>?_) (fun id cs' hc=>?_) (fun id bx he hob=>?_) (fun e=>by cases e)
  ·simp [St.push] at hid
   have:¬ id = st.boxes.length:=by omega
   simp only [Gh.newB,this,if_false]
   exact h.ctx.box.1 id (by omega)
  ·rcases aP hc with h1 | ⟨rfl,h1⟩
   ·exact .inr ⟨h1,by simp,fun _ _ _=>.inl (fun e=>e)⟩
   ·cases h1
  ·rcases aP he with h1 | ⟨rfl,h1⟩
   ·exact .inr ⟨h1,by simp⟩
   ·cases h1
    exact .inl ⟨w.heap.size,.map #[] 0,by simp [Gh.newB],by simp [Gh.newB],hw.new,rfl,⟨rfl,fun i k v e hk=>by simp at hk⟩,rfl,List.nodup_nil,by simp⟩
 exact h1.put (some s) (v:=.map st.boxes.length) (RS.of (R.map _ _ (by simp [Gh.newB]))) (fun _ _ i c x hc _=>Own.of_no (ae (v:=.map st.boxes.length) (fun _ e=>by cases e) trivial i c hc))
theorem cells_wr {cs vs:List AV} {us:Array Value} {xs:List Value} {off:Nat} (hl:us.size = cs.length) (hf:off + vs.length≤cs.length) (hx:xs.length = vs.length) {A:Nat→AV→Value→Prop}
  (h1:∀ (i:Nat) (c:AV) (x:Value),cs[i]? = some c→us[i]? = some x→A i c x) (h2:∀ (i:Nat) (c:AV) (x:Value),vs[i]? = some c→xs[i]? = some x→A (off + i) c x) :
  (putC us off xs).size = (aG cs off vs).length∧∀ (i:Nat) (c:AV) (x:Value),(aG cs off vs)[i]? = some c→(putC us off xs)[i]? = some x→A i c x:=by
 refine ⟨by rw [dS,eJ,hl],fun i c x hc hxx=>?_⟩
 rw [dt] at hc
 rw [ei] at hxx
 by_cases h:off≤i∧i < off + vs.length∧i < cs.length
 ·have h':off≤i∧i < off + xs.length∧i < us.size:=by omega
  rw [if_pos h] at hc
  rw [if_pos h'] at hxx
  have:=h2 _ _ _ hc hxx
  rwa [show off + (i - off) = i by omega] at this
 ·have h':¬ (off≤i∧i < off + xs.length∧i < us.size):=by omega
  rw [if_neg h] at hc
  rw [if_neg h'] at hxx
  exact h1 _ _ _ hc hxx
theorem Ok.writeL (h:Ok m E g w fr st a) {s off b:Nat} {cs vs:List AV} {xs:List Value} (hl:look s fr.locs = some cs) (hb:g.lb E.d s = some b) (hf:off + vs.length≤cs.length) (hr:RL g vs xs)
  (ho:∀ (i:Nat) (c:AV) (x:Value),vs[i]? = some c→xs[i]? = some x→Own g w E.N (.lbox E.d s (off + i)) c x) :
  ∃ us T,w.heap[b]? = some (.cells us T (0,0))∧us.size = cs.length∧Ok m E g (w.setCells b off xs) (fr.setLoc s (aG cs off vs)) st a:=by
 obtain ⟨b',us,T,a1,aN,a2,a3,a4,a5⟩:=h.ctx.loc s cs hl
 have:b' = b:=Option.some.inj (a1.symm.trans hb)
 subst this
 refine ⟨us,T,a3,a4,?_⟩
 have hg:=h.ctx.good
 rw [bJ b' T (0,0) xs off w us a3]
 have hw:=dU w b' (putC us off xs)
 have hch:Ch (fun _=>False) (some s) none none E.d g w g (w.setRow b' (putC us off xs)):=hw.ch a2 (.inl ⟨s,rfl,rfl⟩)
 refine h.ch (hw.mv hg a2 (Nat.lt_irrefl _) (fun L e=>by cases e) (fun _=>aN)) hch h.size h.defers (fun t v u hv hu=>.inr ⟨hv,hu,fun i c _=>.inl (fun e=>e),fun _ _ _=>by simp⟩) (fun t cs' hc=>?_)
  (fun id hid=>h.ctx.box.1 id hid) (fun id cs' hc=>.inr ⟨hc,by simp,fun _ _ _=>.inl (fun e=>e)⟩) (fun id bx he _=>.inr ⟨he,by simp⟩) (fun _=>rfl)
 simp only [Fr.setLoc,fP] at hc
 split at hc
 ·rename_i e; subst e; cases hc
  obtain ⟨c1,c2⟩:=cells_wr (A:=fun i c x=>R g c x∧Own g w E.N (.lbox E.d s i) c x) a4 hf hr.1 a5 (fun i c x hc hx=>⟨hr.2 i c x hc hx,ho i c x hc hx⟩)
  exact .inl ⟨b',_,T,a1,aN,a2,setRow_heap w b' us _ T (0,0) a3,c1,fun i c x hc hx=>⟨(c2 i c x hc hx).1,(c2 i c x hc hx).2.ch hch (fun e=>e)⟩⟩
 ·rename_i e
  exact .inr ⟨hc,fun e'=>e (by cases e'; rfl),by simp,fun _ _ _=>.inl (fun e=>e)⟩
theorem kj {id:Nat} {cs:List AV} (h:st.get id = some cs):st.boxes[id]? = some (some (.cells cs)):=by
 unfold St.get at h
 split at h
 ·rename_i cs' hs; cases h; exact hs
 ·cases h
theorem eC {l:List (Option Box)} {id i:Nat} {x:Option Box} {y:Option Box} (h:(l.set id x)[i]? = some y):(i = id∧x = y)∨(i≠id∧l[i]? = some y):=by
 rw [List.getElem?_set] at h
 by_cases e:id = i
 ·subst e
  by_cases hl:id < l.length
  ·simp [hl] at h; exact .inl ⟨rfl,h⟩
  ·simp [hl] at h
 ·simp [e] at h; exact .inr ⟨fun e'=>e e'.symm,h⟩
theorem Ok.writeB (h:Ok false E g w fr st a) {id off b:Nat} {cs vs:List AV} {xs:List Value} (hl:st.get id = some cs) (hb:g.bx id = some b) (hf:off + vs.length≤cs.length) (hr:RL g vs xs)
  (ho:∀ (i:Nat) (c:AV) (x:Value),vs[i]? = some c→xs[i]? = some x→Own g w 0 (.box id (off + i)) c x) (h1c:∀ x ∈ xs,x.oneCell' = true) :
  ∃ us T,w.heap[b]? = some (.cells us T (0,0))∧us.size = cs.length∧Ok false E g (w.setCells b off xs) fr (st.set id (aG cs off vs)) a:=by
 obtain ⟨b',us,T,a1,a2,a3,a4,a5,a6⟩:=h.ctx.box.2.1 id cs (kj hl)
 have:b' = b:=Option.some.inj (a1.symm.trans hb)
 subst this
 refine ⟨us,T,a3,a4,?_⟩
 have hg:=h.ctx.good
 rw [bJ b' T (0,0) xs off w us a3]
 have hw:=dU w b' (putC us off xs)
 have hch:Ch (fun _=>False) none none (some id) E.d g w g (w.setRow b' (putC us off xs)):=hw.ch a2 (.inr ⟨id,rfl,rfl⟩)
 refine h.ch (hw.mv hg a2 (fun e=>e) (fun L e=>by cases e) (fun e=>by cases e)) hch h.size h.defers (fun t v u hv hu=>.inr ⟨hv,hu,fun i c _=>.inl (fun e=>e),fun _ _ _=>by simp⟩) (fun t cs' hc=>.inr ⟨hc,by simp,by simp,fun _ _ _=>.inl (fun e=>e)⟩)
  (fun id' hid=>h.ctx.box.1 id' (by simpa [St.set] using hid)) (fun id' cs' hc=>?_) (fun id' bx he hob=>?_) (fun e=>by cases e)
 ·rcases eC hc with ⟨rfl,e⟩ | ⟨hne,hc⟩
  ·cases e
   obtain ⟨c1,c2⟩:=cells_wr (A:=fun i c x=>R g c x∧Own g w 0 (.box id' i) c x) a4 hf hr.1 a5 (fun i c x hc hx=>⟨hr.2 i c x hc hx,ho i c x hc hx⟩)
   exact .inl ⟨b',_,T,a1,a2,setRow_heap w b' us _ T (0,0) a3,c1,fun i c x hc hx=>⟨(c2 i c x hc hx).1,(c2 i c x hc hx).2.ch hch (fun e=>e)⟩,putC_one a6 h1c⟩
  ·exact .inr ⟨hc,fun e=>hne (by cases e; rfl),fun _ _ _=>.inl (fun e=>e)⟩
 ·rcases eC he with ⟨rfl,e⟩ | ⟨hne,hc⟩
  ·cases e; cases hob
  ·exact .inr ⟨hc,fun e=>hne (by cases e; rfl)⟩
theorem Ok.writeM (h:Ok false E g w fr st a) {id b:Nat} {es es':List (AV×AV)} {us us':Array MapEntry} {clk clk':Nat} (hl:st.getM id = some es) (hb:g.bx id = some b) (hbu:w.heap[b]? = some (.map us clk)) (he:EntR g es' us') {bs':List Nat} (hbr:BrnR bs' clk' us') :
  Ok false E g { w with heap:=w.heap.setIfInBounds b (.map us' clk') } fr (st.setM id es' bs' clk') a:=by
 obtain ⟨b',us0,a1,a2,a3,a4,_⟩:=h.ctx.box.mp id es _ _ (eK hl)
 have:b' = b:=Option.some.inj (a1.symm.trans hb)
 subst this
 have hg:=h.ctx.good
 have hlt:b' < w.heap.size:=(Array.getElem?_eq_some_iff.1 hbu).1
 have hw:Wr w b' { w with heap:=w.heap.setIfInBounds b' (.map us' clk') }:=⟨rfl,rfl,rfl,by simp,fun k hk=>by simp [Array.getElem?_setIfInBounds_ne (Ne.symm hk)]⟩
 have hch:Ch (fun _=>False) none none (some id) E.d g w g { w with heap:=w.heap.setIfInBounds b' (.map us' clk') }:=hw.ch a2 (.inr ⟨id,rfl,rfl⟩)
 refine h.ch (hw.mv hg a2 (fun e=>e) (fun L e=>by cases e) (fun e=>by cases e)) hch h.size h.defers (fun t v u hv hu=>.inr ⟨hv,hu,fun i c _=>.inl (fun e=>e),fun _ _ _=>by simp⟩) (fun t cs' hc=>.inr ⟨hc,by simp,by simp,fun _ _ _=>.inl (fun e=>e)⟩)
  (fun id' hid=>h.ctx.box.1 id' (by simpa [St.setM] using hid)) (fun id' cs' hc=>?_) (fun id' bx he0 hob=>?_) (fun e=>by cases e)
 ·rcases eC hc with ⟨rfl,e⟩ | ⟨hne,hc⟩
  ·cases e
  ·exact .inr ⟨hc,fun e=>hne (by cases e; rfl),fun _ _ _=>.inl (fun e=>e)⟩
 ·rcases eC he0 with ⟨rfl,e⟩ | ⟨hne,hc⟩
  ·cases e
   exact .inl ⟨b',.map us' clk',a1,a2,by simp [hlt],rfl,he,hbr⟩
  ·exact .inr ⟨hc,fun e=>hne (by cases e; rfl)⟩
end
end Go.Fx
namespace Go.Fx
open Go Go.RowKit Go.Lib
def Gh.more (g:Gh) (b p:Nat) (new:List Value):Gh :=
 { g with imm:=fun b' j=>if b' = b∧p≤j∧j < p + new.length then new[j - p]? else g.imm b' j }
section
variable {P:Program} {m:Bool} {E:Ent} {g g':Gh} {w w':World} {fr fr':Fr} {st st':St} {a a':Act}
theorem Ok.appRoom (h:Ok m E g w fr st a) {sd k:Nat} {es nes:List AV} {b o c:Nat} {cur:Array Value} {T:TypeId} {new:List Value}
  (hR:R g (.sl true k es) (.slice (some ⟨b,o,none⟩) es.length c)) (hN:E.N≤b) (hcls:g.cls b = some (.arr (.slot E.d sd 0))) (hrow:w.heap[b]? = some (.cells cur T (0,0))) (hsz:o + c * k≤cur.size) (hlc:es.length + nes.length≤c)
  (hfree:∀ j,o + es.length * k≤j→j < o + c * k→g.imm b j = none) (hek:∀ e ∈ es,e.cells.length = k) (hnk:∀ e ∈ nes,e.cells.length = k) (hnew:RL g (nes.flatMap AV.cells) new) (hone:∀ u ∈ new,u.oneCell' = true) :
  Ok m E (g.more b (o + es.length * k) new) (w.setCells b (o + es.length * k) new) (fr.put (some sd) (.sl true k (es++nes))) st (a.put (some sd) (.slice (some ⟨b,o,none⟩) (es.length + nes.length) c)):=by
 have hg:=h.ctx.good
 have hnl:new.length = nes.length * k:=by rw [hnew.1,ai hnk]
 have hend:o + es.length * k + new.length≤o + c * k:=by
  rw [hnl,Nat.add_assoc,← Nat.add_mul]
  exact Nat.add_le_add_left (Nat.mul_le_mul_right _ hlc) _
 rw [bJ b T (0,0) new _ w cur hrow]
 have hw:=dU w b (putC cur (o + es.length * k) new)
 generalize hp:o + es.length * k = p at *
 have hle:GhLe g (g.more b p new):=by
  refine ⟨fun b' j u hi=>?_,fun _ _ h=>h⟩
  simp only [Gh.more]
  by_cases hc:b' = b∧p≤j∧j < p + new.length
  ·obtain ⟨rfl,h1,h2⟩:=hc
   rw [hfree j h1 (by omega)] at hi; cases hi
  ·rw [if_neg hc]; exact hi
 have hother:∀ b',b'≠b→(g.more b p new).imm b' = g.imm b':=fun b' hb=>by funext j; simp [Gh.more,hb]
 have hgood:Good (g.more b p new) (w.setRow b (putC cur p new)):=by
  refine ⟨fun b' j u hi=>?_,fun b' j u hi=>?_,fun b' c' hc=>by rw [hw.size]; exact hg.cls b' c' hc,by rw [hw.size]; exact hg.base⟩
  ·by_cases hb:b' = b
   ·subst hb
    rw [cell_setRow_same w b' j cur _ T (0,0) hrow,ei]
    simp only [Gh.more,true_and] at hi
    by_cases hc:p≤j∧j < p + new.length
    ·rw [if_pos hc] at hi
     rw [if_pos ⟨hc.1,hc.2,by omega⟩]; exact hi
    ·rw [if_neg hc] at hi
     rw [if_neg (fun e=>hc ⟨e.1,e.2.1⟩)]
     have:=hg.imm b' j u hi
     rw [cell_of_row w b' j cur T (0,0) hrow] at this
     exact this
   ·rw [hother b' hb] at hi
    rw [cell_setRow_other w b _ ⟨b',j,none⟩ hb]
    exact hg.imm b' j u hi
  ·by_cases hb:b' = b
   ·subst hb; exact .inr ⟨_,hcls⟩
   ·rw [hother b' hb] at hi; exact hg.immc b' j u hi
 have hmv:Mv m E.N E.d g w (g.more b p new) (w.setRow b (putC cur p new)):=by
  refine ⟨hw.os,hw.tape,hw.output,Nat.le_of_eq hw.size.symm,rfl,fun k' hk'=>hw.other k' ?_,hle.imm,hle.bx,fun _ _=>rfl,fun k' c' hk' ho=>?_,fun _=>⟨fun k' hk'=>?_,rfl⟩,hgood⟩
  ·intro e; subst e; have:=(hg.cls k' _ hcls).1; omega
  ·have hne:k'≠b:=fun e=>by subst e; rw [hcls] at hk'; cases hk'; exact Nat.lt_irrefl _ ho
   exact ⟨hk',hw.other k' hne,hother k' hne⟩
  ·have hne:k'≠b:=by omega
   exact ⟨hw.other k' hne,hother k' hne,rfl⟩
 have hch:Ch (fun L=>L = .slot E.d sd 0) none none none E.d g w (g.more b p new) (w.setRow b (putC cur p new)):=by
  refine ⟨hle,fun k' c' hk' hX _ _=>?_,fun _ _=>rfl⟩
  have hne:k'≠b:=fun e=>by subst e; rw [hcls] at hk'; cases hk'; exact hX _ rfl rfl
  exact ⟨hk',hw.other k' hne,hother k' hne⟩
 have hlen:(es++nes).length = es.length + nes.length:=by simp
 have hall:∀ e ∈ es++nes,e.cells.length = k:=fun e he=>by
  rcases List.mem_append.1 he with h1 | h1
  ·exact hek e h1
  ·exact hnk e h1
 have hsp:∀ (i:Nat) (x:AV),((es++nes).flatMap AV.cells)[i]? = some x→(∃ u,(g.more b p new).imm b (o + i) = some u∧R (g.more b p new) x u∧u.oneCell' = true):=by
  intro i x hx
  rw [List.flatMap_append] at hx
  by_cases hi:i < es.length * k
  ·rw [List.getElem?_append_left (by rw [ai hek]; exact hi)] at hx
   cases hR with
   | slE _ _ a' c'=>simp at hi
   | sl _ _ _ us _ _ _ _ _ h1 h2 h3=>exact ⟨us i,hle.imm _ _ _ (h1 i x hx),(h2 i x hx).mono hle,h3 i x hx⟩
  ·rw [List.getElem?_append_right (by rw [ai hek]; omega),ai hek] at hx
   have hlt:i - es.length * k < new.length:=by rw [hnew.1]; exact (List.getElem?_eq_some_iff.1 hx).1
   have hnu:new[i - es.length * k]? = some new[i - es.length * k]:=List.getElem?_eq_getElem hlt
   refine ⟨new[i - es.length * k],?_,(hnew.2 _ x _ hx hnu).mono hle,hone _ (List.getElem_mem hlt)⟩
   have:o + i - p = i - es.length * k:=by omega
   have hcc:b = b∧p≤o + i∧o + i < p + new.length:=⟨rfl,by omega,by omega⟩
   show (if b = b∧p≤o + i∧o + i < p + new.length then new[o + i - p]? else g.imm b (o + i)) = _
   rw [if_pos hcc,this]; exact hnu
 refine h.ch hmv hch (by simp [Act.put,Fr.put,h.size]) h.defers (fun t v u hv hu=>?_) (fun t cs' hc=>.inr ⟨hc,by simp,by simp,fun _ _ _=>.inl (fun e=>by cases e)⟩) (fun id hid=>h.ctx.box.1 id hid)
  (fun id cs' hc=>.inr ⟨hc,by simp,fun _ _ _=>.inl (fun e=>by cases e)⟩) (fun id bx he _=>.inr ⟨he,by simp⟩) (fun _=>rfl)
 simp only [Fr.put,List.getElem?_set] at hv
 simp only [Act.put,Array.getElem?_setIfInBounds] at hu
 by_cases e:sd = t
 ·subst e
  by_cases hs:sd < fr.slots.length
  ·have hs':sd < a.tmps.size:=by rw [h.size]; exact hs
   simp [hs] at hv
   simp [hs'] at hu
   subst hv; subst hu
   left
   constructor
   ·have:R (g.more b p new) (.sl true k (es++nes)) (.slice (some ⟨b,o,none⟩) (es++nes).length c):=by
     refine R.sl true k _ (fun i=>((g.more b p new).imm b (o + i)).getD undef) b o c (by rw [hlen]; exact hlc) hall (fun i x hx=>?_) (fun i x hx=>?_) (fun i x hx=>?_)
     ·obtain ⟨u,h1,h2,h3⟩:=hsp i x hx; rw [h1]; rfl
     ·obtain ⟨u,h1,h2,h3⟩:=hsp i x hx; rw [h1]; exact h2
     ·obtain ⟨u,h1,h2,h3⟩:=hsp i x hx; rw [h1]; exact h3
    rw [hlen] at this
    exact RS.of this
   ·intro i c' x hc hx
    cases i with
    | succ i=>simp [AV.cells] at hc
    | zero =>
      simp [AV.cells] at hc
      simp [Value.cells] at hx
      subst hc; subst hx
      refine Own.of_sl fun k' es' e'=>.inr ?_
      cases e'
      refine ⟨b,o,c,_,T,by rw [hlen],hN,hcls,setRow_heap w b cur _ T (0,0) hrow,by rw [dS]; exact hsz,by rw [hlen]; exact hlc,fun j hj hj'=>?_⟩
      rw [hlen,Nat.add_mul,← Nat.add_assoc,hp,← hnl] at hj
      show (if b = b∧p≤j∧j < p + new.length then new[j - p]? else g.imm b j) = none
      rw [if_neg (fun e=>by omega)]
      exact hfree j (by omega) hj'
  ·simp [hs] at hv
 ·simp [e] at hv hu
  exact .inr ⟨hv,hu,fun i c' _=>.inl (fun e'=>by cases e'; exact e rfl),fun _ _ _=>by simp⟩
theorem app_own (h:Ok m E g w fr st a) {t t2 ty:TypeId} {sd k:Nat} {es:List AV} {vy:AV} {ux uy:Value} (hx:R g (.sl true k es) ux) (hox:OwnV g w E.N (Loc.slot E.d sd) (.sl true k es) ux) (hy:RS g E.d vy uy) {K:AV→Prop}
  (hK:(dv P st t t2 (.sl true k es) vy).wp K):∃ v,K v∧∃ u g' w',(Builtin.append_ #[t,t2] ty #[ux,uy]).run P w = .ok u w'∧Ok m E g' w' (fr.put (some sd) v) st (a.put (some sd) u):=by
 have hg:=h.ctx.good
 unfold dv at hK
 split at hK
 case h_2=>exact hK.elim
 rename_i e dd ht ht2
 split at hK
 case h_2=>exact hK.elim
 rename_i i hi
 split at hK
 case isFalse=>exact hK.elim
 rename_i hcond
 obtain ⟨hdd,hpos,hzs⟩:=hcond
 simp only at hK
 split at hK
 case isFalse=>exact hK.elim
 rename_i hki
 subst hki
 rw [Res.wp_bind] at hK
 obtain ⟨nes,hK,hnk,hlen,new,hnew,hone,hfc⟩:=gj (P:=P) hg h.ctx.box hy hK
 obtain ⟨hroom,hK⟩:=hK
 have hroom:=of_decide_eq_true hroom
 have hux:∃ ad c,ux = .slice ad es.length c:=by cases hx <;> exact ⟨_,_,rfl⟩
 obtain ⟨ad,c0,rfl⟩:=hux
 have hek:∀ e ∈ es,e.cells.length = i.size:=by cases hx <;> first | assumption | simp
 have hndk:∀ x ∈ nes.map AV.dis,x.cells.length = i.size:=by
  intro x hx
  simp only [List.mem_map] at hx
  obtain ⟨y,hy,rfl⟩:=hx
  rw [aO]; exact hnk y hy
 have hnl:new.length = nes.length * i.size:=by rw [hnew.1,ai hnk]
 have hsrc:Src P i.size t2 uy nes.length new w:=by
  refine ⟨?_,hlen,hfc w (fun _ _ _=>rfl),hfc w.drew (fun b o _=>cV w b o),hnl,hone⟩
  cases dd <;> simp only [srcT] at hdd <;> first | (cases hdd; done) | exact .inl ⟨_,ht2⟩ | exact .inr ht2
 by_cases hfit:es.length + nes.length≤c0
 ·rcases (hox 0 _ _ rfl rfl).1 i.size es rfl with ⟨rfl,x,hux⟩ | ⟨b,o,c,cur,T,h1,hN,h2,h3,h4,h5,h6⟩
  ·cases hux
   have hn0:nes = []:=List.eq_nil_of_length_eq_zero (by simpa using hfit)
   subst hn0
   have hnew0:new = []:=List.eq_nil_of_length_eq_zero (by simpa using hnl)
   subst hnew0
   refine ⟨_,hK,_,g,w,run_append_nothing w t t2 ty e i ht hi ad 0 0 (Nat.le_refl 0) uy hsrc,?_⟩
   exact h.put (some sd) (RS.of hx) fun s hs=>OwnV.cap0 _
  cases h1
  have hgc:∀ j,o + es.length * i.size + j < cur.size→(w.cell? ⟨b,o + es.length * i.size + j,none⟩).isSome = true∧w.frozen? ⟨b,o + es.length * i.size + j,none⟩ = false:=by
   intro j hj
   refine ⟨by rw [cell_of_row w b _ cur T (0,0) h3]; simp [hj],by simp [World.frozen?,h3]⟩
  have hend:o + es.length * i.size + new.length≤o + c0 * i.size:=by
   rw [hnl,Nat.add_assoc,← Nat.add_mul]
   exact Nat.add_le_add_left (Nat.mul_le_mul_right _ hfit) _
  have hrun:=run_append_room_src (P:=P) w t t2 ty e i ht hi b o es.length c0 uy nes.length new hsrc hfit (fun j hj=>(hgc j (by omega)).1) (fun j hj=>(hgc j (by omega)).2)
  refine ⟨_,hK,_,g.more b (o + es.length * i.size) new,_,hrun,?_⟩
  have:=h.appRoom (nes:=nes.map AV.dis) hx hN h2 h3 h4 (by simpa using hfit) h6 hek hndk (mF hnk hnew) hone
  simpa using this
 ·obtain ⟨es',hes',_,_,olds,hold,hold1,hofc⟩:=gj (P:=P) hg h.ctx.box (d:=E.d) (k:=i.size) (x:=.sl true i.size es) (RS.of hx) (K:=fun x=>x = es) (by simp [srcA,Res.wp])
  subst hes'
  cases hz:i.zero with
  | none=>simp [hz] at hzs
  | some z =>
    have hzl:z.cells.size = i.size:=by simpa [hz] using hzs
    have hol:olds.length = es'.length * i.size:=by rw [hold.1,ai hek]
    have hrun:=run_append_grow_src (P:=P) w t t2 ty e i z ht hi hz ad es'.length c0 olds (hofc w.drew (fun b o _=>cV w b o)) uy nes.length new hsrc (by omega) (by omega) (growslice_fits (by omega) hroom.1)
    have hge:=grownCap_ge w (es'.length + nes.length) c0 e
    generalize grownCap w (es'.length + nes.length) c0 e = cap at *
    have hle:=mA (g:=g) (w:=w) (olds++new) (Builtin.zeroCells z.cells (cap - (es'.length + nes.length))) e (.slot E.d sd 0) 1
    have hrl:RL g ((es'++nes.map AV.dis).flatMap AV.cells) (olds++new):=by rw [List.flatMap_append]; exact hold.append (mF hnk hnew)
    have hlen2:(es'++nes.map AV.dis).length = es'.length + nes.length:=by simp
    have hall:∀ e ∈ es'++nes.map AV.dis,e.cells.length = i.size:=fun e he=>by
     rcases List.mem_append.1 he with h1 | h1
     ·exact hek e h1
     ·exact hndk e h1
    refine ⟨_,hK,_,_,_,hrun,((h.le hle).put (some sd) (v:=.sl true i.size (es'++nes.map AV.dis)) (RS.of ?_) ?_)⟩
    ·rw [← hlen2]
     exact qx true _ (by rw [hlen2]; exact hge) hall hrl.1 (fun j x u hx hu=>hrl.2 j x u hx hu) (fun u hu=>(List.mem_append.1 hu).elim (hold1 u) (hone u)) (hle.ghle hg)
    ·intro s hs
     cases hs
     have:=iH (g:=g) (w:=w) (us:=olds++new) (L:=Loc.slot E.d sd) (k:=i.size) (es:=es'++nes.map AV.dis) cap (Builtin.zeroCells z.cells (cap - (es'.length + nes.length))) e 1 (by rw [hlen2]; exact hge)
      (by rw [hlen2,List.length_append,hol,hnl,Nat.add_mul])
      (by rw [size_zeroCells,hzl,List.length_append,hol,hnl,← Nat.add_mul,← Nat.add_mul]; exact Nat.mul_le_mul_right _ (by omega)) true h.hN
     rw [hlen2] at this
     exact this
end
end Go.Fx
namespace Go.Fx
open Go Go.RowKit Go.Lib
section
variable {P:Program} {m:Bool} {E:Ent} {g g':Gh} {w w':World} {fr fr':Fr} {st st':St} {a a':Act}
theorem R.sl_cells {g:Gh} {o:Bool} {k:Nat} {es:List AV} {u:Value} (h:R g (.sl o k es) u):u.cells = #[u]:=by
 cases h <;> rfl
theorem R.slF {g:Gh} {k:Nat} {es:List AV} {u:Value} (h:R g (.sl true k es) u):R g (.sl false k es) u:=h.own
theorem rD {X:Loc→Prop} {ls nl bi:Option Nat} {d:Nat} {g:Gh} {w:World}:Ch X ls nl bi d g w g w:=⟨GhLe.refl g,fun _ _ h _ _ _=>⟨h,rfl,rfl⟩,fun _ _=>rfl⟩
theorem nr {t:TypeId} {b o:Nat} {x:Value} {w:World} (hagg:aw P t = false) (hu:(P.underlying t).isSome = true) (hc:w.cell? ⟨b,o,none⟩ = some x):(loadVar t ⟨b,o,none⟩).run P w = .ok x w:=by
 cases h:P.underlying t with
 | none=>simp [h] at hu
 | some dd=>simp [loadVar,Sem.run_bind,eU h w,hagg,run_load,hc,Result.andThen]
def dP (A B L:Loc):Loc:=if L = A then B else L
theorem step_loadL {o:Oper} {t:TypeId} {addr:Operand} {sd s off k:Nat} {es cs:List AV} (hdst:o.dst = some sd) (ho:o.op = .load t addr) (h:Ok m E g w fr st a) (hev:fr.ev addr = .lptr s off) (hl:look s fr.locs = some cs)
  (hc:cs[off]? = some (.sl true k es)) (hagg:aw P t = false) (hu:(P.underlying t).isSome = true) :
  Stp P o m E w a ((fr.setLoc s (cs.set off (.sl false k es))).put (some sd) (.sl true k es),st):=by
 obtain ⟨b,us,T,a1,aN,a2,a3,a4,a5⟩:=h.ctx.loc s cs hl
 have hr:=h.ev addr
 rw [hev] at hr
 obtain ⟨b',hb',hav⟩:=hr
 have:b = b':=Option.some.inj (a1.symm.trans hb')
 subst this
 have hlt:off < cs.length:=(List.getElem?_eq_some_iff.1 hc).1
 have hlt':off < us.size:=by omega
 have hx:us[off]? = some us[off]:=Array.getElem?_eq_getElem hlt'
 obtain ⟨hR,hO⟩:=a5 off _ _ hc hx
 have h1:Ok m E g w (fr.setLoc s (cs.set off (.sl false k es))) st a:=by
  refine h.ch (Mv.refl h.ctx.good) (rD (X:=fun _=>False) (ls:=none) (nl:=none) (bi:=none)) h.size h.defers (fun t v u hv hu=>.inr ⟨hv,hu,fun i c _=>.inl (fun e=>e),fun _ _ _=>by simp⟩) (fun t cs' hc'=>?_)
   (fun id hid=>h.ctx.box.1 id hid) (fun id cs' hc=>.inr ⟨hc,by simp,fun _ _ _=>.inl (fun e=>e)⟩) (fun id bx he _=>.inr ⟨he,by simp⟩) (fun _=>rfl)
  simp only [Fr.setLoc,fP] at hc'
  split at hc'
  ·rename_i e; subst e; cases hc'
   refine .inl ⟨b,us,T,a1,aN,a2,a3,by simpa using a4,fun i c x hc2 hx2=>?_⟩
   rw [List.getElem?_set] at hc2
   by_cases e:off = i
   ·subst e
    simp [hlt] at hc2
    subst hc2
    rw [hx] at hx2; cases hx2
    exact ⟨hR.slF,Own.of_no trivial⟩
   ·simp [e] at hc2
    exact a5 i c x hc2 hx2
  ·exact .inr ⟨hc',by simp,by simp,fun _ _ _=>.inl (fun e=>e)⟩
 have h2:=h1.relab (dP (.lbox E.d s off) (.slot E.d sd 0))
  (fun L hL=>by
   have:L≠.lbox E.d s off:=fun e=>by subst e; exact Nat.lt_irrefl _ hL
   simp [dP,this])
  (fun _ _ _ _ _ _=>.inl (by simp [dP]))
  (fun t cs' hc' i c hci=>by
   simp only [Fr.setLoc,fP] at hc'
   split at hc'
   ·rename_i e; subst e; cases hc'
    by_cases e:off = i
    ·subst e
     simp [hlt] at hci
     subst hci
     exact .inr trivial
    ·exact .inl (by simp [dP]; omega)
   ·rename_i e
    exact .inl (by simp [dP]; omega))
  (fun _ _ _ _ _ _=>.inl (by simp [dP]))
 refine ⟨us[off],g.relab E.N (dP (.lbox E.d s off) (.slot E.d sd 0)),w,.inl ?_,?_⟩
 ·simp only [execOp,ho]
  refine aA ?_
  simp [Instr.loadAt,Instr.sureAddr,hav,nr hagg hu (show w.cell? ⟨b,off,none⟩ = some us[off] by rw [cell_of_row w b off us T (0,0) a3]; exact hx)]
 ·rw [hdst]
  refine h2.put (some sd) (RS.of (hR.mono (pq _ _ _))) fun s' hs' i c x hci hxi=>?_
  cases hs'
  have hcs:us[off].cells = #[us[off]]:=hR.sl_cells
  cases i with
  | succ i=>simp [AV.cells] at hci
  | zero =>
    simp [AV.cells] at hci
    rw [hcs] at hxi
    simp at hxi
    subst hci; subst hxi
    have:=hO.relab (ρ:=dP (.lbox E.d s off) (.slot E.d sd 0)) (Nat.le_refl E.N)
    simpa [dP] using this
theorem step_loadB {o:Oper} {t:TypeId} {addr:Operand} {sd id off k:Nat} {es cs:List AV} (hdst:o.dst = some sd) (ho:o.op = .load t addr) (h:Ok false E g w fr st a) (hev:fr.ev addr = .ptr id off) (hl:st.get id = some cs)
  (hc:cs[off]? = some (.sl true k es)) (hagg:aw P t = false) (hu:(P.underlying t).isSome = true) :
  Stp P o false E w a (fr.put (some sd) (.sl true k es),st.set id (cs.set off (.sl false k es))):=by
 obtain ⟨b,us,T,a1,a2,a3,a4,a5,a6⟩:=h.ctx.box.2.1 id cs (kj hl)
 have hr:=h.ev addr
 rw [hev] at hr
 have hr':∃ b',g.bx id = some b'∧a.eval addr = .pointer (some ⟨b',off,none⟩):=by
  generalize a.eval addr = u at hr
  cases hr with | ptr _ _ b' hb=>exact ⟨b',hb,rfl⟩
 obtain ⟨b',hb',hav⟩:=hr'
 have:b = b':=Option.some.inj (a1.symm.trans hb')
 subst this
 have hlt:off < cs.length:=(List.getElem?_eq_some_iff.1 hc).1
 have hlt':off < us.size:=by omega
 have hx:us[off]? = some us[off]:=Array.getElem?_eq_getElem hlt'
 obtain ⟨hR,hO⟩:=a5 off _ _ hc hx
 have hN0:=h.hm rfl
 have h1:Ok false E g w fr (st.set id (cs.set off (.sl false k es))) a:=by
  refine h.ch (Mv.refl h.ctx.good) (rD (X:=fun _=>False) (ls:=none) (nl:=none) (bi:=none)) h.size h.defers (fun t v u hv hu=>.inr ⟨hv,hu,fun i c _=>.inl (fun e=>e),fun _ _ _=>by simp⟩) (fun t cs' hc'=>.inr ⟨hc',by simp,by simp,fun _ _ _=>.inl (fun e=>e)⟩)
   (fun id' hid=>h.ctx.box.1 id' (by simpa [St.set] using hid)) (fun id' cs' hc'=>?_) (fun id' bx he hob=>?_) (fun e=>by cases e)
  ·rcases eC hc' with ⟨rfl,e⟩ | ⟨hne,hc'⟩
   ·cases e
    refine .inl ⟨b,us,T,a1,a2,a3,by simpa using a4,fun i c x hc2 hx2=>?_,a6⟩
    rw [List.getElem?_set] at hc2
    by_cases e:off = i
    ·subst e
     simp [hlt] at hc2
     subst hc2
     rw [hx] at hx2; cases hx2
     exact ⟨hR.slF,Own.of_no trivial⟩
    ·simp [e] at hc2
     exact a5 i c x hc2 hx2
   ·exact .inr ⟨hc',by simp,fun _ _ _=>.inl (fun e=>e)⟩
  ·rcases eC he with ⟨rfl,e⟩ | ⟨hne,he⟩
   ·cases e; cases hob
   ·exact .inr ⟨he,by simp⟩
 have h2:=h1.relab (dP (.box id off) (.slot E.d sd 0))
  (fun L hL=>by
   have:L≠.box id off:=fun e=>by subst e; exact hL
   simp [dP,this])
  (fun _ _ _ _ _ _=>.inl (by simp [dP]))
  (fun _ _ _ _ _ _=>.inl (by simp [dP]))
  (fun id' cs' hc' i c hci=>by
   rcases eC hc' with ⟨rfl,e⟩ | ⟨hne,hc'⟩
   ·cases e
    by_cases e:off = i
    ·subst e
     simp [hlt] at hci
     subst hci
     exact .inr trivial
    ·exact .inl (by simp [dP]; omega)
   ·exact .inl (by simp [dP]; omega))
 refine ⟨us[off],g.relab E.N (dP (.box id off) (.slot E.d sd 0)),w,.inl ?_,?_⟩
 ·simp only [execOp,ho]
  refine aA ?_
  simp [Instr.loadAt,Instr.sureAddr,hav,nr hagg hu (show w.cell? ⟨b,off,none⟩ = some us[off] by rw [cell_of_row w b off us T (0,0) a3]; exact hx)]
 ·rw [hdst]
  refine h2.put (some sd) (RS.of (hR.mono (pq _ _ _))) fun s' hs' i c x hci hxi=>?_
  cases hs'
  have hcs:us[off].cells = #[us[off]]:=hR.sl_cells
  cases i with
  | succ i=>simp [AV.cells] at hci
  | zero =>
    simp [AV.cells] at hci
    rw [hcs] at hxi
    simp at hxi
    subst hci; subst hxi
    have:=hO.relab (N:=E.N) (ρ:=dP (.box id off) (.slot E.d sd 0)) (by omega)
    rw [hN0]
    rw [hN0] at this
    simpa [dP] using this
theorem qE {key:AV}:∀ {es:List (AV×AV)} {i:Nat} {K:Option (Nat×AV)→Prop},(bU key es i).wp K→(bU key es i).wp fun r=>K r∧∀ j v,r = some (j,v)→∃ k,i≤j∧es[j - i]? = some (k,v)∧bS key k = some true
 | [],i,K,h=>⟨h,fun j v e=>by cases e⟩
 | (k, v) :: es, i, K, h => by
   simp only [bU] at h ⊢
   split at h
   ·rename_i b hb
    cases b with
    | true=>exact ⟨h,fun j v' e=>by cases e; exact ⟨k,Nat.le_refl _,by simp,hb⟩⟩
    | false =>
      simp only [Bool.false_eq_true,if_false] at h ⊢
      refine Res.wp_mono (qE h) fun r hr=>⟨hr.1,fun j v' e=>?_⟩
      obtain ⟨k',h1,h2,h3⟩:=hr.2 j v' e
      exact ⟨k',by omega,by rw [show j - i = j - (i + 1) + 1 by omega]; simpa using h2,h3⟩
   ·exact h.elim
theorem qF:∀ (vs:List Value),(∀ v ∈ vs,∃ q n,v = .int q n)→(vs.zip vs).all (fun x=>Instr.sameBits 9999 x.1 x.2) = true
 | [],_=>rfl
 | v :: vs, h => by
   obtain ⟨q,n,rfl⟩:=h v (by simp)
   simp [Instr.sameBits]
   simpa using qF vs fun v hv=>h v (by simp [hv])
theorem keyEq_same {kk kx:AV} {key x:Value} (hk:KeyR kk key) (hx:KeyR kx x) (h:bS kk kx = some true):Instr.sameBits 10000 x key = true:=by
 rcases hk with ⟨v,rfl,hf,rfl⟩ | ⟨vs,rfl,hv,rfl⟩
 ·rcases hx with ⟨v',rfl,hf',rfl⟩ | ⟨vs',rfl,_⟩
  ·unfold bS at h
   split at h
   ·rename_i k1 n1 k2 n2 e1 e2
    cases e1; cases e2
    split at h
    ·rename_i e; subst e
     simp at h; subst h
     simp [Instr.sameBits]
    ·cases h
   ·rename_i e1 e2
    cases e1; cases e2
    simp only [Option.some.injEq,beq_toListBytes,beq_iff_eq] at h
    simp [Instr.sameBits,beq_toListBytes,h]
   ·rename_i e1 e2
    cases e1; cases e2
    simp at h; subst h
    simp [Instr.sameBits]
   ·rename_i e1 e2; cases e1
   ·cases h
  ·have:∀ v,bS (.lit v) (.agg (vs'.map AV.lit)) = none:=fun v=>by cases v <;> rfl
   rw [this] at h; cases h
 ·rcases hx with ⟨v',rfl,hf',rfl⟩ | ⟨vs',rfl,_,rfl⟩
  ·simp [bS] at h
  ·simp only [bS] at h
   have:=ki h rfl
   subst this
   simp only [Instr.sameBits,beq_self_eq_true,Bool.true_and]
   exact qF vs hv
theorem fQ (h:Ok m E g w fr st a) {id:Nat} {es:List (AV×AV)} {um:Value} (hm:RS g E.d (.map id) um) (hes:st.getM id = some es):∃ b us clk,g.bx id = some b∧um = .map (some b)∧w.heap[b]? = some (.map us clk)∧EntR g es us∧clk = (st.getB id).2∧BrnR (st.getB id).1 clk us:=by
 obtain ⟨b,us,h1,h2,h3,h4,h5⟩:=h.ctx.box.mp id es _ _ (eK hes)
 cases hm with
 | map _ b' hb =>
   have:b = b':=Option.some.inj (h1.symm.trans hb)
   subst this
   exact ⟨b,us,_,h1,rfl,h3,h4,rfl,h5⟩
theorem BrnR.erase {bs:List Nat} {clk:Nat} {us:Array MapEntry} (h:BrnR bs clk us) {j:Nat} (hj:j < us.size):BrnR (bs.eraseIdx j) clk (us.eraseIdxIfInBounds j):=by
 refine ⟨?_,List.Nodup.sublist (List.eraseIdx_sublist _ _) h.nodup,fun b hb=>h.lt b (List.mem_of_mem_eraseIdx hb)⟩
 rw [← h.eq]
 simp only [Array.eraseIdxIfInBounds,hj,dite_true,Array.toList_eraseIdx]
 apply List.ext_getElem?
 intro i
 simp only [List.getElem?_map,List.getElem?_eraseIdx]
 split <;> rfl
theorem BrnR.push {bs:List Nat} {clk:Nat} {us:Array MapEntry} (h:BrnR bs clk us) (k v:Value):BrnR (bs++[clk]) (clk + 1) (us.push { key:=k,val:=v,born:=clk }):=by
 refine ⟨by rw [← h.eq]; simp,?_,fun b hb=>?_⟩
 ·rw [List.nodup_append]
  refine ⟨h.nodup,by simp,fun a ha b hb=>?_⟩
  simp at hb; subst hb
  exact Nat.ne_of_lt (h.lt a ha)
 ·rcases List.mem_append.1 hb with hb | hb
  ·exact Nat.lt_succ_of_lt (h.lt b hb)
  ·simp at hb; subst hb; exact Nat.lt_succ_self _
theorem BrnR.modify {bs:List Nat} {clk:Nat} {us:Array MapEntry} (h:BrnR bs clk us) (j:Nat) (k v:Value):BrnR bs clk (us.modify j fun e=>{ e with key:=k,val:=v }):=by
 refine ⟨?_,h.nodup,h.lt⟩
 rw [← h.eq]
 apply List.ext_getElem?
 intro i
 simp only [List.getElem?_map,Array.getElem?_toList,Array.getElem?_modify]
 by_cases e:j = i
 ·subst e; cases us[j]? <;> simp
 ·simp [e]
theorem set_same {w:World} {b:Nat} {o:Obj} (h:w.heap[b]? = some o):{ w with heap:=w.heap.setIfInBounds b o } = w:=by
 have:w.heap.setIfInBounds b o = w.heap:=by
  apply Array.ext_getElem?
  intro i
  rw [Array.getElem?_setIfInBounds]
  by_cases e:b = i
  ·subst e
   have hlt:=(Array.getElem?_eq_some_iff.1 h).1
   simp only [if_true,hlt]
   exact h.symm
  ·simp [e]
 rw [this]
theorem delete_own (h:Ok false E g w fr st a) {t kt et ty:TypeId} {id:Nat} {es:List (AV×AV)} {vk:AV} {um uk:Value} (ts:Array TypeId) (hts:ts[0]? = some t) (hu:P.underlying t = some (.map kt et)) (hfit:dD P kt vk = true)
  (hm:RS g E.d (.map id) um) (hk:RS g E.d vk uk) (hes:st.getM id = some es) {K:Fr×St→Prop}
  (hK:((bU vk es 0).bind fun r=>match r with | some (i,_)=>.ok (fr,st.delM id es i) | none=>.ok (fr,st)).wp K) :
  ∃ q,K q∧∃ w',(Builtin.delete_ ts ty #[um,uk]).run P w = .ok (.tuple #[]) w'∧Ok false E g w' q.1 q.2 a:=by
 obtain ⟨hkr,hchk⟩:=mE hfit hk
 obtain ⟨b,us,clk,hb,rfl,hrow,hE,hclk,hB⟩:=fQ h hm hes
 rw [Res.wp_bind] at hK
 obtain ⟨r,hK,hr⟩:=pn (us:=us.toList) hfit hkr (by simpa using hE.1) (fun j k v e h1 h2=>(hE.2 j k v e h1 (by simpa using h2)).1) hK
 have h2:=hchk us.isEmpty w
 have h3:(getObj b).run P w = .ok (.map us clk) w:=by simp [getObj,Sem.run,hrow]
 have fin:∀ (q:Option (Nat×Value)) (us':Array MapEntry),(∀ w,(Instr.findKey kt uk us.toList).run P w = .ok q w)→(match q with | some p=>us' = us.eraseIdxIfInBounds p.1 | none=>us' = us) →
   (Builtin.delete_ ts ty #[.map (some b),uk]).run P w = .ok (.tuple #[]) { w with heap:=w.heap.setIfInBounds b (.map us' clk) }:=by
  intro q us' hq hus
  have h1:=hq w
  have h4:(setObj b (.map us' clk)).run P w = .ok () { w with heap:=w.heap.setIfInBounds b (.map us' clk) }:=by simp [setObj,Sem.run,hrow]
  unfold Builtin.delete_
  simp only [hts,Sem.run_bind,run_underlying hu,Result.andThen_ok,h3,List.getElem?_toArray,List.getElem?_cons_zero,List.getElem?_cons_succ]
  rw [h2]
  simp only [Result.andThen_ok]
  rw [h1]
  simp only [Result.andThen_ok]
  cases q with
  | none=>simp only at hus; subst hus; simp only [Sem.run_bind,h4,Result.andThen_ok,Sem.run_pure]
  | some p=>simp only at hus; subst hus; simp only [Sem.run_bind,h4,Result.andThen_ok,Sem.run_pure]
 rcases hr with ⟨rfl,hn⟩ | ⟨j,k',v',e',rfl,hj1,hj2,hn⟩
 ·refine ⟨_,hK,_,fin none us hn rfl,?_⟩
  rw [set_same hrow]
  exact h
 ·refine ⟨_,hK,_,fin _ _ hn rfl,?_⟩
  unfold St.delM
  rw [← hclk]
  refine h.writeM (es':=es.eraseIdx j) hes hb hrow ?_ (hB.erase (by simpa using (List.getElem?_eq_some_iff.1 hj2).1))
  have hjl:j < us.size:=by simpa using (List.getElem?_eq_some_iff.1 hj2).1
  have he:us.eraseIdxIfInBounds j = us.eraseIdx j:=by simp [Array.eraseIdxIfInBounds,hjl]
  simp only [he]
  refine ⟨by rw [Array.size_eraseIdx,List.length_eraseIdx_of_lt (by rw [← hE.1]; exact hjl),hE.1],fun i k v e hk he=>?_⟩
  rw [List.getElem?_eraseIdx] at hk
  rw [Array.getElem?_eraseIdx] at he
  by_cases hij:i < j
  ·simp [hij] at hk he; exact hE.2 i k v e hk he
  ·simp [hij] at hk he; exact hE.2 (i + 1) k v e hk he
theorem update_own (h:Ok false E g w fr st a) {t kt et:TypeId} {id:Nat} {es:List (AV×AV)} {vk vx:AV} {um uk ux:Value} (hu:P.underlying t = some (.map kt et)) (hfit:dD P kt vk = true)
  (hm:RS g E.d (.map id) um) (hk:RS g E.d vk uk) (hx:R g vx ux) (hes:st.getM id = some es) {K:Fr×St→Prop}
  (hK:((bU vk es 0).bind fun r=>.ok (fr,st.updM id es vk vx.dis r)).wp K) :
  ∃ q,K q∧∃ w',(Instr.mapUpdate t um uk ux).run P w = .ok () w'∧Ok false E g w' q.1 q.2 a:=by
 obtain ⟨hkr,hchk⟩:=mE hfit hk
 obtain ⟨b,us,clk,hb,rfl,hrow,hE,hclk,hB⟩:=fQ h hm hes
 rw [Res.wp_bind] at hK
 obtain ⟨r,⟨hK,hkey⟩,hr⟩:=pn (us:=us.toList) hfit hkr (by simpa using hE.1) (fun j k v e h1 h2=>(hE.2 j k v e h1 (by simpa using h2)).1) (qE hK)
 have h2:=hchk false w
 have h3:(getObj b).run P w = .ok (.map us clk) w:=by simp [getObj,Sem.run,hrow]
 have hno:∀ c ∈ vx.dis.cells,c.noOwn:=fun c hc=>by
  obtain ⟨i,hi⟩:=List.mem_iff_getElem?.1 hc
  exact aq vx i c hi
 rcases hr with ⟨rfl,hn⟩ | ⟨j,k',v',e',rfl,hj1,hj2,hn⟩
 ·have h4:(setObj b (.map (us.push { key:=uk,val:=ux,born:=clk }) (clk + 1))).run P w = .ok () { w with heap:=w.heap.setIfInBounds b (.map (us.push { key:=uk,val:=ux,born:=clk }) (clk + 1)) }:=by simp [setObj,Sem.run,hrow]
  refine ⟨_,hK,_,?_,by
   simp only [St.updM,updA]
   rw [← hclk]
   refine h.writeM (es':=es++[(vk,vx.dis)]) (us':=us.push { key:=uk,val:=ux,born:=clk }) (clk':=clk + 1) hes hb hrow ⟨by simp [hE.1],fun i k v e hk he=>?_⟩ (hB.push uk ux)
   by_cases hi:i < es.length
   ·rw [List.getElem?_append_left hi] at hk
    rw [Array.getElem?_push_lt (by rw [hE.1]; exact hi)] at he
    exact hE.2 i k v e hk (by rw [← he]; exact Array.getElem?_eq_getElem _)
   ·have hil:i = es.length:=by
     have:=(List.getElem?_eq_some_iff.1 hk).1
     simp at this; omega
    subst hil
    simp at hk
    rw [← hE.1] at he
    simp at he
    obtain ⟨rfl,rfl⟩:=hk
    subst he
    exact ⟨hkr,hx.dis,hno⟩⟩
  unfold Instr.mapUpdate
  simp only [Sem.run_bind,run_underlying hu,Result.andThen_ok,h3]
  rw [h2]
  simp only [Result.andThen_ok]
  rw [hn w]
  simp only [Result.andThen_ok]
  exact h4
 ·obtain ⟨k2,_,hk2,hk3⟩:=hkey j v' rfl
  simp only [Nat.sub_zero] at hk2
  rw [hj1] at hk2
  cases hk2
  obtain ⟨hkr',hv2,hv3⟩:=hE.2 j k' v' e' hj1 (by simpa using hj2)
  have hsame:=keyEq_same hkr hkr' hk3
  have hjl:j < us.size:=by simpa using (List.getElem?_eq_some_iff.1 hj2).1
  have hje:us[j]? = some e':=by simpa using hj2
  have h4:∀ us',(setObj b (.map us' clk)).run P w = .ok () { w with heap:=w.heap.setIfInBounds b (.map us' clk) }:=fun us'=>by simp [setObj,Sem.run,hrow]
  refine ⟨_,hK,{ w with heap:=w.heap.setIfInBounds b (.map (us.modify j fun e=>{ e with key:=uk,val:=ux }) clk) },?_,by
   simp only [St.updM,updA]
   rw [← hclk]
   refine h.writeM (es':=es.set j (vk,vx.dis)) (us':=us.modify j fun e=>{ e with key:=uk,val:=ux }) (clk':=clk) hes hb hrow ⟨by simp [hE.1],fun i k v e hk he=>?_⟩ (hB.modify j uk ux)
   rw [List.getElem?_set] at hk
   rw [Array.getElem?_modify] at he
   by_cases e:j = i
   ·subst e
    have:j < es.length:=by rw [← hE.1]; exact hjl
    simp [this] at hk
    simp [hje] at he
    obtain ⟨rfl,rfl⟩:=hk
    subst he
    exact ⟨hkr,hx.dis,hno⟩
   ·simp [e] at hk he
    exact hE.2 i k v _ hk he⟩
  ·unfold Instr.mapUpdate
   simp only [Sem.run_bind,run_underlying hu,Result.andThen_ok,h3]
   rw [h2]
   simp only [Result.andThen_ok]
   rw [hn w]
   simp only [Result.andThen_ok,hje,Option.map_some,Option.getD_some,Instr.keyThatStays,hsame,if_true]
   exact h4 _
end
end Go.Fx
namespace Go.Fx
open Go Go.RowKit Go.Lib
section
variable {P:Program} {m:Bool} {E:Ent} {g g':Gh} {w w':World} {fr fr':Fr} {st st':St} {a a':Act}
theorem cW {v:AV} (h:v.solid = true):∀ s o,v≠.lptr s o:=by
 intro s o e
 subst e
 simp [AV.solid,AV.cells,AV.solid1] at h
theorem eY {t:TypeId} {b off:Nat} {u:Value} {w:World} {us:Array Value} {T:TypeId} (hrow:w.heap[b]? = some (.cells us T (0,0))) (hsz:szT P t = some u.cells.size) (hfit:off + u.cells.size≤us.size) (hone:∀ x ∈ u.cells,x.oneCell' = true) :
  (Instr.storeAt t (.pointer (some ⟨b,off,none⟩)) u).run P w = .ok () (w.setCells b off u.cells.toList):=by
 have hst:=run_storeCells_cells (P:=P) b off u.cells.toList 0 w (fun j hj=>by rw [cell_of_row w b _ us T (0,0) hrow]; simp at hj; simp; omega) (fun j hj=>by simp [World.frozen?,hrow]) (fun v hv=>hone v (by simpa using hv))
 obtain ⟨i,hi,hn⟩:=j0 hsz
 simp [Instr.storeAt,Instr.sureAddr,storeVar,sizeOf,typeInfo,hi,hn,hst]
theorem write_own (h:Ok m E g w fr st a) {t:TypeId} {addr:Operand} {v:AV} {u:Value} (hr:RS g E.d v u) (hs:v.solid = true) (hsz:szT P t = some v.cells.length) {av:AV} (hav:RS g E.d av (a.eval addr))
  (hoL:∀ s off,av = .lptr s off→OwnV g w E.N (fun k=>.lbox E.d s (off + k)) v u) (hoB:∀ id off,av = .ptr id off→OwnV g w E.N (fun k=>.box id (off + k)) v u) {K:Fr×St→Prop}
  (hK:(rC m fr st av v.cells).wp K):∃ q,K q∧∃ w',(Instr.storeAt t (a.eval addr) u).run P w = .ok () w'∧Ok m E g w' q.1 q.2 a:=by
 obtain ⟨hrl,hone⟩:=ba hs (hr.r (cW hs))
 have hsz':szT P t = some u.cells.size:=by rw [hsz]; have:=hrl.1; simp at this; rw [this]
 unfold rC at hK
 split at hK
 ·rename_i s off
  rw [Res.wp_bind,ak] at hK
  obtain ⟨cs,hl,hK⟩:=hK
  split at hK
  ·rename_i hf
   obtain ⟨b,hb,hu⟩:=hav
   obtain ⟨us,T,hrow,hus,hok⟩:=h.writeL (xs:=u.cells.toList) hl hb hf hrl (fun i c x hc hx=>hoL s off rfl i c x hc (by simpa using hx))
   refine ⟨_,hK,_,?_,hok⟩
   rw [hu]
   exact eY hrow hsz' (by have:=hrl.1; simp at this; omega) hone
  ·exact hK.elim
 ·rename_i id off
  split at hK
  ·exact hK.elim
  ·rename_i hm
   have hm:m = false:=by simpa using hm
   subst hm
   have hN0:=h.hm rfl
   rw [Res.wp_bind,ak] at hK
   obtain ⟨cs,hl,hK⟩:=hK
   split at hK
   ·rename_i hf
    have hav':∃ b,g.bx id = some b∧a.eval addr = .pointer (some ⟨b,off,none⟩):=by
     generalize a.eval addr = u at hav
     cases hav with | ptr _ _ b' hb=>exact ⟨b',hb,rfl⟩
    obtain ⟨b,hb,hu⟩:=hav'
    obtain ⟨us,T,hrow,hus,hok⟩:=h.writeB (xs:=u.cells.toList) hl hb hf hrl (fun i c x hc hx=>by have:=hoB id off rfl i c x hc (by simpa using hx); rwa [hN0] at this) (fun x hx=>hone x (by simpa using hx))
    refine ⟨_,hK,_,?_,hok⟩
    rw [hu]
    exact eY hrow hsz' (by have:=hrl.1; simp at this; omega) hone
   ·exact hK.elim
 ·exact hK.elim
theorem step_sound (heap:Nat→Bool) (all:List Oper) {o:Oper} (h:Ok m E g w fr st a) {K:Fr×St→Prop} (hK:(db P m heap all o fr st).wp K):∃ q,K q∧Stp P o m E w a q:=by
 obtain ⟨dst,op,ty,pos,after,gd⟩:=o
 unfold db at hK
 simp only at hK
 split at hK
 -- alloc
 ·rename_i t s
  rw [Res.wp_bind] at hK
  replace hK:=bC (g:=g) hK
  obtain ⟨z,hK,i,zv,hi,hz,hzr,hzs,hzn⟩:=hK
  obtain ⟨hrl,hz1⟩:=ba hzs hzr
  have hrun:∀ gd,(execOp a.eval ⟨some s,.alloc t,ty,pos,after,gd⟩).run P w = .ok (.value (.pointer (some ⟨w.heap.size,0,none⟩))) (w.alloc (.cells zv.cells t)):=fun gd=>by
   simp only [execOp]
   exact aA (by simp [Instr.alloc,zeroValue,typeInfo,hi,hz,newVar,newRow])
  split at hK
  ·split at hK
   ·exact hK.elim
   ·rename_i hm
    have hm:m = false:=by simpa using hm
    subst hm
    exact ⟨_,hK,_,_,_,.inl (hrun gd),h.newB s (bW w _) hrl (fun i c x hc _=>Own.of_no (hzn i c hc)) hz1⟩
  ·exact ⟨_,hK,_,_,_,.inl (hrun gd),h.newL s (bW w _) hrl hzn⟩
 -- box
 ·rename_i t x s
  split at hK
  case isFalse=>exact hK.elim
  rename_i hc
  have hrun:∀ gd,(execOp a.eval ⟨some s,.box t x,ty,pos,after,gd⟩).run P w = .ok (.value (.pointer (some ⟨w.heap.size,0,none⟩))) (w.alloc (.cells (a.eval x).cells t)):=fun gd=>by
   simp only [execOp]
   exact aA (by simp [Instr.box,newVar,newRow])
  split at hK
  ·split at hK
   ·exact hK.elim
   ·rename_i hm
    have hm:m = false:=by simpa using hm
    subst hm
    obtain ⟨g1,h1,hr,ho,_⟩:=h.stealOp x (fun k=>.box st.boxes.length k)
    obtain ⟨hrl,hz1⟩:=ba hc.1 (hr.r (cW hc.1))
    refine ⟨_,hK,_,_,_,.inl (hrun gd),h1.newB s (bW w _) hrl (fun i c y hci hy=>?_) hz1⟩
    have:=ho i c y hci hy
    rwa [h.hm rfl] at this
  ·have hs:=mC hc.1
   have hrev:RS g E.d (fr.evOwn x).dis (a.eval x):=by
    cases x with
    | tmp t=>exact (dm h t).1.dis
    | const v=>exact (h.ev (.const v)).dis.dis
    | global v=>exact (h.ev (.global v)).dis.dis
    | func v=>exact (h.ev (.func v)).dis.dis
   obtain ⟨hrl,_⟩:=ba hs (hrev.r (cW hs))
   exact ⟨_,hK,_,_,_,.inl (hrun gd),h.newL s (bW w _) hrl (aq _)⟩
 -- store
 ·rename_i t addr x
  split at hK
  case isFalse=>exact hK.elim
  rename_i hc
  have hrun:∀ gd w',(Instr.storeAt t (a.eval addr) (a.eval x)).run P w = .ok () w'→(execOp a.eval ⟨none,.store t addr x,ty,pos,after,gd⟩).run P w = .ok .skip w':=fun gd w' hr=>by
   simp [execOp,hr]
  obtain ⟨g1,h1,hr,ho,hmono⟩:=h.stealOp x (fun k=>match fr.ev addr with | .lptr s off=>.lbox E.d s (off + k) | .ptr id off=>.box id (off + k) | _=>.box 0 0)
  obtain ⟨q,hq,w',hst,hok⟩:=write_own (P:=P) (t:=t) (addr:=addr) h1 hr hc.1 hc.2 (hmono _ _ (h.ev addr)) (fun s off e=>by rw [e] at ho; exact ho) (fun id off e=>by rw [e] at ho; exact ho) hK
  exact ⟨q,hq,undef,_,_,.inr ⟨rfl,hrun gd w' hst⟩,hok⟩
 -- assign
 ·rename_i sx sd
  split at hK
  ·exact hK.elim
  ·exact ⟨_,hK,nq rfl (.inl rfl) h⟩
 -- move
 ·rename_i sx sd
  split at hK
  ·exact ⟨_,hK,nq rfl (.inr rfl) h⟩
  ·exact dg h hK
 -- load
 ·rename_i t addr sd
  split at hK
  case isFalse=>exact dg h hK
  rename_i hc
  obtain ⟨_,hagg,hsz,hu⟩:=hc
  split at hK
  ·rename_i s off hev
   rw [Res.wp_bind,ak] at hK
   obtain ⟨cs,hl,hK⟩:=hK
   split at hK
   ·rename_i k es hce
    exact ⟨_,hK,step_loadL rfl rfl h hev hl hce hagg hu⟩
   ·exact dg h hK
  ·rename_i id off hev
   split at hK
   ·exact dg h hK
   ·rename_i hm
    have hm:m = false:=by simpa using hm
    subst hm
    rw [Res.wp_bind,ak] at hK
    obtain ⟨cs,hl,hK⟩:=hK
    split at hK
    ·rename_i k es hce
     exact ⟨_,hK,step_loadB rfl rfl h hev hl hce hagg hu⟩
    ·exact dg h hK
  ·exact dg h hK
 -- slice
 ·rename_i t sx lo sd
  split at hK
  ·rename_i e k es hu hsl
   split at hK
   ·rename_i hc
    exact step_slice rfl rfl hu hc.2 hsl h hK
   ·exact hK.elim
  ·exact dg h hK
 -- append
 ·rename_i args ts sd
  split at hK
  ·rename_i sx y t t2 hargs hts
   have ha':args = #[.tmp sx,y]:=by apply Array.ext'; simpa using hargs
   have ht':ts = #[t,t2]:=by apply Array.ext'; simpa using hts
   subst ha'; subst ht'
   split at hK
   ·rename_i k es hsl
    split at hK
    ·exact hK.elim
    ·obtain ⟨h1,h2,h3⟩:=h.steal sx (Loc.slot E.d sd)
     rw [hsl] at h2 h3
     have hy:RS (g.relab E.N (dR E.d sx (Loc.slot E.d sd))) E.d (fr.ev y) (a.eval y):=(h.ev y).ch (hZ g w E.N E.d _) (fun _ _ _=>by simp)
     rw [Res.wp_bind] at hK
     obtain ⟨v,hv,u,g',w',hrun,hok⟩:=app_own (P:=P) (ty:=ty) h1 h2 h3 hy hK
     exact ⟨_,hv,u,g',w',.inl (dF (s:=Builtin.append_ #[t,t2] ty #[a.eval (.tmp sx),a.eval y]) (fun _=>by simp [builtin]) hrun),hok⟩
   ·exact dg h hK
  ·exact dg h hK
 -- delete
 ·rename_i args ts
  split at hK
  case h_2=>exact hK.elim
  rename_i mp k t r hargs hts
  have ha':args = #[mp,k]:=by apply Array.ext'; simpa using hargs
  subst ha'
  split at hK
  case h_2=>exact hK.elim
  rename_i kt et hu
  split at hK
  case isFalse=>exact hK.elim
  rename_i hc
  obtain ⟨hfit,hm⟩:=hc
  subst hm
  split at hK
  case h_2=>exact hK.elim
  rename_i id hmp
  rw [Res.wp_bind,ak] at hK
  obtain ⟨es,hes,hK⟩:=hK
  have hm:=h.ev mp
  rw [hmp] at hm
  obtain ⟨q,hq,w',hrun,hok⟩:=delete_own (P:=P) (ty:=ty) h ts (by rw [← Array.getElem?_toList,hts]; rfl) hu hfit hm (h.ev k) hes hK
  exact ⟨q,hq,.tuple #[],g,w',.inl (dF (s:=Builtin.delete_ ts ty #[a.eval mp,a.eval k]) (fun _=>by simp [builtin]) hrun),hok⟩
 -- makeMap
 ·rename_i t s
  split at hK
  ·exact hK.elim
  ·rename_i hm
   have hm:m = false:=by simpa using hm
   subst hm
   refine ⟨_,hK,.map (some w.heap.size),_,_,.inl ?_,h.newM s (bW w _)⟩
   simp only [execOp]
   exact aA (by simp [Instr.makeMap])
 -- mapUpdate
 ·rename_i t mp k x
  split at hK
  case h_2=>exact hK.elim
  rename_i kt et hu
  split at hK
  case isFalse=>exact hK.elim
  rename_i hc
  obtain ⟨hfit,hm,hsol⟩:=hc
  subst hm
  split at hK
  case h_2=>exact hK.elim
  rename_i id hmp
  rw [Res.wp_bind,ak] at hK
  obtain ⟨es,hes,hK⟩:=hK
  have hm:=h.ev mp
  rw [hmp] at hm
  obtain ⟨q,hq,w',hrun,hok⟩:=update_own (P:=P) h hu hfit hm (h.ev k) ((h.ev x).r (cW hsol)) hes hK
  exact ⟨q,hq,undef,g,w',.inr ⟨rfl,by simp [execOp,hrun]⟩,hok⟩
 ·exact dg h hK
end
end Go.Fx
namespace Go.Fx
open Go
abbrev FW (r:Option Nat):Fence:={ fn:=fun _=>True,depth:=none,alive:=false,round:=r }
theorem jN {r:Option Nat} {n:Nat} {P:Program} {f:FuncId} {args:Array Value} {w:World} {R:Ending→World→Prop}:CallsIn (FW r) n P f args w R↔Calls P f args w R :=
 callsIn_wide (n:=n)
section
variable {P:Program} {r:Option Nat}
theorem exec_defer {ρ:Operand→Value} {o:Oper} {c:Call} (h:o.op = .defer c):execOp ρ o = (do pure (.defer (← resolve ρ c o.type))):=by
 unfold execOp; rw [h]
theorem ko {o:Oper} {a:Act} {w:World} {K:Act→World→Prop} {Q:Exit→Act→World→Prop} (hd:∀ c,o.op≠.defer c) (h:o.wp P a w K Q):o.wpIn (FW r) 0 P a w K Q:=by
 unfold Oper.wp at h
 unfold Oper.wpIn
 refine ⟨fun _ _=>trivial,?_⟩
 rw [Oper.semAt_eq _ _ _ hd]
 generalize (execOp a.eval o).run P w = q at *
 cases q with
 | ok x w' =>
   cases x <;> simp only [Oper.upon] at h <;> simp only [Oper.uponIn]
   case value=>exact h
   case skip=>exact h
   case defer=>exact h
   case enter f args=>exact ⟨fun e=>(by cases e),jN.2 h⟩
   case row f args =>
    refine ⟨fun e=>(by cases e),fun c cs _=>?_⟩
    obtain ⟨v,w',hR,hs⟩:=h c cs
    exact ⟨v,w',hR,(stepsIn_wide (P:=P)).2 hs⟩
 | halt x w'=>cases x <;> simp only [Oper.upon] at h <;> simp only [Oper.uponIn] <;> exact h
theorem rE {G:Type} {Le:G→World→G→World→Prop} {o:Oper} {a:Act} {g:G} {w:World} {f:Value→G→World→Prop} (h:aQ P Le o a g w f):∀ c,o.op≠.defer c:=by
 intro c hc
 unfold aQ at h
 rw [exec_defer hc,Sem.run_bind] at h
 generalize (resolve a.eval c o.type).run P w = q at h
 cases q with
 | ok x w'=>simp only [Result.andThen_ok,Sem.run_pure,cL] at h
 | halt x w'=>simp only [Result.andThen,cL] at h
theorem pt {G:Type} {Le:G→World→G→World→Prop} {o:Oper} {a:Act} {g:G} {w:World} {f:Value→G→World→Prop} {K:Act→World→Prop} {Q:Exit→Act→World→Prop}
  (hh:aQ P Le o a g w f) (hK:∀ v g' w',Le g w g' w'→f v g' w'→K (a.put o.dst v) w'):o.wpIn (FW r) 0 P a w K Q :=
 ko (rE hh) (ru hh hK)
theorem ia {F:Fence} {n:Nat} {md:Region.Mode} {ops:Array Oper} {Q':Exit→Act→World→Prop}:∀ (l:List Oper) (k:Nat) (listed:Array Bool) (a:Act) (w:World),(∀ j,l[j]? = ops[k + j]?) →
  Region.seqB md ops l.length k listed = true→wpListIn F n P ops Q' l a w→wpAnyIn F n P md ops Q' l.length listed a w
 | [],_,_,_,_,_,hB,h=>⟨by simpa [Region.seqB] using hB,h⟩
 | o :: l, k, listed, a, w, hl, hB, h => by
   have h0:ops[k]? = some o:=by simpa using (hl 0).symm
   simp only [List.length_cons,Region.seqB,Bool.and_eq_true,decide_eq_true_eq] at hB
   refine ⟨fun h1=>(by rw [hB.1] at h1; cases h1),fun i hi=>?_⟩
   rw [hB.1] at hi
   have hik:i = k:=by simpa using hi
   subst hik
   have hw:wpOpIn F n P ops Q' i (wpListIn F n P ops Q' l) a w:=by unfold wpOpIn; simp only [h0]; exact h
   exact wpOpIn_mono (fun a' w' h'=>ia l (i + 1) _ a' w' (fun j=>by have:=hl (j + 1); simpa [Nat.add_assoc,Nat.add_comm 1 j] using this) hB.2 h') hw
section
variable {b:Frame} {a:Act} {k:List Item} {cs:List Frame} {w:World}
theorem dw {c:Code}:step P (lone (b.atR a (.code (.scope c)::k)) cs w) = .next (lone (b.atR a (.code c::.inScope c::k)) cs w) :=
 step_lone_go (by simp [stepG,stepG.exec,Frame.atR])
theorem qo {c:Code}:step P (lone (b.atR a (.inScope c::k)) cs w) = .next (lone (b.atR a k) cs w) :=
 step_lone_go (by simp [stepG,stepG.exec,Frame.atR])
end
theorem js {F:Fence} {n:Nat} {Q:Exit→Act→World→Prop} {a:Act} {w:World} {c:Code} (h:c.wpIn F n P (Exit.noGoto Q) a w):(Code.scope c).wpIn F n P Q a w:=by
 intro b k cs hro hb hr
 have h0:(lone (b.atR a (.code (.scope c)::k)) cs w).fenced P F:=fenced_calm hb hr rfl
 obtain ⟨e,a₁,w₁,hq,harr⟩:=h b (.inScope c::k) cs hro hb hr
 cases e with
 | normal=>exact ⟨.normal,a₁,w₁,hq,.head h0 dw (StepsIn.trans harr (.one (fenced_calm hb hr rfl) qo))⟩
 | exit id =>
   have hx:exitTo id (.inScope c::k) = exitTo id k:=by simp [exitTo]
   exact ⟨.exit id,a₁,w₁,hq,fun k' hk=>.head h0 dw (harr.1 k' (by rw [hx]; exact hk)),
    fun hr' hk=>let ⟨k₁,h1,h2⟩:=harr.2 hr' (by rw [hx]; exact hk); ⟨k₁,h1,.head h0 dw h2⟩⟩
 | goto l=>exact hq.elim
 | ret=>exact ⟨_,a₁,w₁,hq,.of_steps (.one h0 dw) harr⟩
 | panic ch=>exact ⟨_,a₁,w₁,hq,.of_steps (.one h0 dw) harr⟩
 | outgrown=>exact ⟨_,a₁,w₁,hq,.of_steps (b:=b) (k:=k) (cs:=cs) (e:=.outgrown) (.one h0 dw) harr⟩
end
end Go.Fx
namespace Go.Fx
open Go
section
variable {F:Fence} {n:Nat} {P:Program} {md:Region.Mode} {ops:Array Oper} {Q:Exit→Act→World→Prop}
def noDS (ops:Array Oper):Bool:=ops.all fun o=>match o.op with | .select .. | .defer _=>false | _=>true
theorem ib (h:noDS ops = true) (j:Nat) (o:Oper) (ho:ops[j]? = some o):(∀ cs b,o.op≠.select cs b)∧∀ c,o.op≠.defer c:=by
 have:=Array.all_eq_true_iff_forall_mem.1 h o (Array.mem_of_getElem? ho)
 exact ⟨fun cs b e=>by simp [e] at this,fun c e=>by simp [e] at this⟩
theorem yf_wpOp {i:Nat} {o:Oper} {v:Value} {a:Act} (hnd:∀ c,o.op≠.defer c) (hi:ops[i]? = some o) (hy:YieldsFenced P ops o v a)
  {K:Act→World→Prop} {w:World} (h:K (a.put o.dst v) w):wpOpIn F n P ops Q i K a w:=by
 unfold Go.wpOpIn
 simp only [hi]
 have hab:∀ f,o.about P w a.eval = some f→F.fn f:=fun f hf=>by rw [hy.2 w] at hf; cases hf
 rcases hy.1 with ⟨hw,hv⟩ | ⟨hw,rfl⟩
 ·simp only [hw,if_true,Oper.wpIn,Oper.semAt_eq _ _ _ hnd,hv w,Oper.uponIn]; exact ⟨hab,h⟩
 ·simp only [hw,Bool.false_eq_true,if_false]; exact ⟨hab,h⟩
theorem wpOpIn_putW {j:Nat} {oi oj:Oper} {v:Value} (hnd:∀ c,oj.op≠.defer c) (hj:ops[j]? = some oj) (hap:oi.apart ops oj = true)
  (hsi:∀ cs b,oi.op≠.select cs b) (hsj:∀ cs b,oj.op≠.select cs b)
  (hQ:∀ c a w,Q (.panic c) (a.put oi.dst v) w→Q (.panic c) a w) {K:Act→World→Prop} {a:Act} {w:World}
  (hy:YieldsFenced P ops oi v a) (h:wpOpIn F n P ops Q j K (a.put oi.dst v) w) :
  wpOpIn F n P ops Q j (fun a' w'=>YieldsFenced P ops oi v a'∧K (a'.put oi.dst v) w') a w:=by
 obtain ⟨h1,h2,h3⟩:=Oper.apart_spec hap
 have keep:∀ (a:Act),YieldsFenced P ops oi v a→∀ u,YieldsFenced P ops oi v (a.put oj.dst u):=fun a hy u =>
  hy.of_same (execOp_put oi hsi a oj.dst u h3) (wanted_put oi a oj.dst u h3) (fun w=>about_put oi w a oj.dst u h3)
 have keepD:∀ d,YieldsFenced P ops oi v { a with defers:=d::a.defers }:=fun d=>hy.of_same rfl rfl (fun _=>rfl)
 unfold wpOpIn at *
 simp only [hj] at *
 rw [wanted_put oj a oi.dst v h1,about_put oj w a oi.dst v h1] at h
 split
 ·rename_i hw
  simp only [hw,if_true] at h
  unfold Oper.wpIn at *
  rw [about_put oj w a oi.dst v h1] at h
  refine ⟨h.1,?_⟩
  have h:=h.2
  rw [Oper.semAt_eq _ _ _ hnd,execOp_put oj hsj a oi.dst v h1] at h
  rw [Oper.semAt_eq _ _ _ hnd]
  generalize (execOp a.eval oj).run P w = r at *
  cases r with
  | ok x w' =>
    cases x <;> simp only [Oper.uponIn] at h ⊢
    case value u=>exact ⟨keep a hy u,by rw [← Act.put_comm a v u h2]; exact h⟩
    case skip=>exact ⟨keep a hy _,by rw [← Act.put_comm a v undef h2]; exact h⟩
    case defer d =>
     refine ⟨keep _ (keepD d) _,?_⟩
     rw [← Act.put_comm _ v undef h2,← Act.put_defers]
     exact h
    case enter f args =>
     refine ⟨h.1,CallsIn.mono h.2 fun e w'' he=>?_⟩
     cases e with
     | returned u=>exact ⟨keep a hy u,by rw [← Act.put_comm a v u h2]; exact he⟩
     | panicked c=>exact hQ _ _ _ he
     | outgrown=>exact he
    case row row args=>exact ⟨h.1,RowsIn.mono h.2 fun u w'' he=>⟨keep a hy u,by rw [← Act.put_comm a v u h2]; exact he⟩⟩
    case round l f tmps assign body =>
     refine ⟨h.1,RoundIn.mono h.2 fun e w'' he=>?_⟩
     cases e with
     | returned u=>exact ⟨keep a hy u,by rw [← Act.put_comm a v u h2]; exact he⟩
     | panicked c=>exact hQ _ _ _ he
     | outgrown=>exact he
  | halt x w' =>
    cases x <;> simp only [Oper.uponIn] at h ⊢
    case panic u=>exact hQ _ _ _ h
 ·rename_i hw
  simp only [hw] at h
  exact ⟨h.1,keep a hy _,by rw [← Act.put_comm a v undef h2]; exact h.2⟩
theorem ic {i:Nat} {oi:Oper} {v:Value} (hi:ops[i]? = some oi) (hds:noDS ops = true)
  (hQ:∀ c a w,Q (.panic c) (a.put oi.dst v) w→Q (.panic c) a w) :
  ∀ (fuel:Nat) (listed:Array Bool) (a:Act) (w:World),
   (∀ j oj,ops[j]? = some oj→j≠i→listed.getD j true = false→(∀ e ∈ oj.after,Region.binds md e = true→e.on≠i)→oi.apart ops oj = true) →
   i ∈ Region.ready md ops listed→YieldsFenced P ops oi v a →
   wpAnyIn F n P md ops Q fuel (listed.setIfInBounds i true) (a.put oi.dst v) w→wpAnyIn F n P md ops Q (fuel + 1) listed a w:=by
 intro fuel
 induction fuel with
 | zero =>
   intro listed a w _ hr hy H
   refine ⟨fun h=>(by rw [h] at hr; cases hr),fun j hj=>?_⟩
   by_cases hji:j = i
   ·subst hji; exact yf_wpOp (ib hds j oi hi).2 hi hy H
   ·have:=ready_mono hj hji
    rw [H.1] at this
    cases this
 | succ fuel ih =>
   intro listed a w hfree hr hy H
   refine ⟨fun h=>(by rw [h] at hr; cases hr),fun j hj=>?_⟩
   by_cases hji:j = i
   ·subst hji; exact yf_wpOp (ib hds j oi hi).2 hi hy H
   ·have h1:=H.2 j (ready_mono hj hji)
    obtain ⟨hjun,oj,hoj,hall⟩:=mem_ready.1 hj
    have hnot:∀ e ∈ oj.after,Region.binds md e = true→e.on≠i:=fun e he hb heq=>by
     have h1:=hall e he hb
     have h0:=(mem_ready.1 hr).1
     rw [heq] at h1
     rcases Nat.lt_or_ge i listed.size with h' | h'
     ·simp [h'] at h0 h1; rw [h0] at h1; cases h1
     ·simp [Array.getElem?_eq_none h'] at h1
    have h2:=wpOpIn_putW (ib hds j oj hoj).2 hoj (hfree j oj hoj hji hjun hnot) (ib hds i oi hi).1 (ib hds j oj hoj).1 hQ hy h1
    have hfree':∀ k ok,ops[k]? = some ok→k≠i→(listed.setIfInBounds j true).getD k true = false →
      (∀ e ∈ ok.after,Region.binds md e = true→e.on≠i)→oi.apart ops ok = true:=fun k ok hk hki hun hno=>by
     refine hfree k ok hk hki ?_ hno
     by_cases hjk:j = k
     ·subst hjk; exact hjun
     ·rw [getD_set_ne true hjk] at hun; exact hun
    refine wpOpIn_mono (fun a' w' h3=>ih (listed.setIfInBounds j true) a' w' hfree' (ready_mono hr (Ne.symm hji)) h3.1 ?_) h2
    rw [Array.setIfInBounds_comm _ _ hji]
    exact h3.2
end
def withE (e:Nat) (o:Oper):Oper:={ o with after:=o.after.push ⟨e,.data⟩ }
def onB (o:Oper) (i:Nat):Bool:=o.after.any fun x=>Region.binds .any x && x.on == i
def moreB (e:Nat) (oe:Oper) (j:Nat) (o:Oper):Bool:=decide (e < j) && oe.after.all fun x=>!Region.binds .any x || onB o x.on
def eagF (e:Nat) (oe:Oper) (j:Nat) (o:Oper):Oper:=if moreB e oe j o = true then withE e o else o
def eagE (l:List Oper) (e:Nat) (oe:Oper):List Oper:=l.mapIdx (eagF e oe)
def pureOp:Op→Bool
 | .move _ | .assign _ | .extract _ _=>true
 | _=>false
def eagB (ops:Array Oper) (e:Nat) (oe:Oper):Bool :=
 oe.guard.isNone && pureOp oe.op && noDS ops && (List.range ops.size).all fun j=>j == e || onB oe j || match ops[j]? with
  | some oj=>onB oj e || oe.apart ops oj
  | none=>true
def eag1 (l:List Oper) (d:Nat):List Oper :=
 match l.findIdx? fun o=>o.dst == some d with
 | some e => match l[e]? with
   | some oe=>if eagB l.toArray e oe = true then eagE l e oe else l
   | none=>l
 | none=>l
def eagL:List Nat→List Oper→List Oper
 | [],l=>l
 | d::r,l=>eagL r (eag1 l d)
section
variable {F:Fence} {n:Nat} {P:Program} {Q:Exit→Act→World→Prop} {l:List Oper} {e:Nat} {oe:Oper}
theorem kq (j:Nat):(eagE l e oe).toArray[j]? = (l.toArray[j]?).map (eagF e oe j):=by
 simp [eagE,List.getElem?_mapIdx]
theorem eagF_same (j:Nat) (o:Oper):(eagF e oe j o).dst = o.dst∧(eagF e oe j o).op = o.op∧(eagF e oe j o).type = o.type∧(eagF e oe j o).guard = o.guard:=by
 unfold eagF; split <;> exact ⟨rfl,rfl,rfl,rfl⟩
theorem eag_yielded (t:Array Value):yielded (eagE l e oe).toArray t = yielded l.toArray t:=by
 funext j
 unfold yielded
 rw [kq]
 cases h:l.toArray[j]? with
 | none=>rfl
 | some o=>simp only [Option.map_some,Option.bind_some,(eagF_same j o).1]
theorem eag_wpOp (i:Nat) (K:Act→World→Prop) (a:Act) (w:World):wpOpIn F n P (eagE l e oe).toArray Q i K a w = wpOpIn F n P l.toArray Q i K a w:=by
 unfold wpOpIn
 rw [kq,eag_yielded]
 cases h:l.toArray[i]? with
 | none=>rfl
 | some o =>
   simp only [Option.map_some]
   unfold eagF
   split <;> rfl
theorem ig {o:Oper} {i:Nat} (h:onB o i = true):∃ x ∈ o.after,Region.binds .any x = true∧x.on = i:=by
 unfold onB at h
 obtain ⟨x,hx,hb⟩:=Array.any_eq_true'.1 h
 simp only [Bool.and_eq_true,beq_iff_eq] at hb
 exact ⟨x,hx,hb.1,hb.2⟩
theorem eag_ready {listed:Array Bool} {j:Nat} (h:j ∈ Region.ready .any (eagE l e oe).toArray listed):j ∈ Region.ready .any l.toArray listed:=by
 rw [mem_ready] at *
 obtain ⟨h0,o,ho,hall⟩:=h
 rw [kq] at ho
 obtain ⟨o0,ho0,rfl⟩:=Option.map_eq_some_iff.1 ho
 refine ⟨h0,o0,ho0,fun x hx hb=>hall x ?_ hb⟩
 unfold eagF
 split
 ·simp only [withE,Array.mem_push]; exact .inl hx
 ·exact hx
theorem qG {listed:Array Bool} {j:Nat} (hcase:listed.getD e false = true∨∃ x ∈ oe.after,Region.binds .any x = true∧listed.getD x.on false = false) (h:j ∈ Region.ready .any l.toArray listed):j ∈ Region.ready .any (eagE l e oe).toArray listed:=by
 rw [mem_ready] at *
 obtain ⟨h0,o,ho,hall⟩:=h
 refine ⟨h0,eagF e oe j o,by rw [kq,ho]; rfl,fun x hx hb=>?_⟩
 unfold eagF at hx
 split at hx
 ·rename_i hm
  simp only [withE,Array.mem_push] at hx
  rcases hx with hx | rfl
  ·exact hall x hx hb
  ·rcases hcase with h | ⟨y,hy,hyb,hyl⟩
   ·exact h
   ·exfalso
    unfold moreB at hm
    simp only [Bool.and_eq_true] at hm
    have h2:=Array.all_eq_true_iff_forall_mem.1 hm.2 y hy
    simp only [hyb,Bool.not_true,Bool.false_or] at h2
    obtain ⟨z,hz,hzb,hzo⟩:=ig h2
    have:=hall z hz hzb
    rw [hzo,hyl] at this
    cases this
 ·exact hall x hx hb
theorem pure_yields {o:Oper} (hp:pureOp o.op = true) (hg:o.guard = none) {ops:Array Oper} {i:Nat} (hi:ops[i]? = some o) {K:Act→World→Prop} {a:Act} {w:World} (hQ:∀ c a w,¬ Q (.panic c) a w)
  (h:wpOpIn F n P ops Q i K a w):∃ v,YieldsFenced P ops o v a∧K (a.put o.dst v) w:=by
 unfold wpOpIn at h
 have hw:Region.wanted o (yielded ops a.tmps) = true:=by unfold Region.wanted; rw [hg]
 simp only [hi,hw,if_true] at h
 obtain ⟨dst,op,ty,pos,after,guard⟩:=o
 simp only at hp hg
 have hnd:∀ c,op≠.defer c:=fun c e=>by subst e; cases hp
 unfold Oper.wpIn at h
 rw [Oper.semAt_eq _ _ _ hnd] at h
 have h:=h.2
 have hab:∀ w,Oper.about P w a.eval ⟨dst,op,ty,pos,after,guard⟩ = none:=fun w=>by
  unfold Oper.about
  cases op <;> first | rfl | cases hp
 have key:∀ v,(∀ w,(execOp a.eval (⟨dst,op,ty,pos,after,guard⟩:Oper)).run P w = .ok (.value v) w)→∃ v,YieldsFenced P ops ⟨dst,op,ty,pos,after,guard⟩ v a∧K (a.put dst v) w:=fun v hv=>by
  rw [hv w] at h
  exact ⟨v,⟨.inl ⟨hw,hv⟩,hab⟩,h⟩
 have ext:∀ (u:Value) (ix:Nat),(∃ v,∀ w,(Instr.extract u ix).run P w = .ok v w)∨∀ w,∃ x w',(Instr.extract u ix).run P w = .halt x w'∧∀ p,x≠.panic p:=fun u ix=>by
  unfold Instr.extract
  split
  ·split
   ·rename_i v _; exact .inl ⟨v,fun w=>rfl⟩
   ·exact .inr fun w=>⟨_,_,rfl,fun p e=>by cases e⟩
  ·exact .inr fun w=>⟨_,_,rfl,fun p e=>by cases e⟩
 cases op with
 | move y=>exact key (a.eval y) fun w=>rfl
 | assign y=>exact key (a.eval y) fun w=>rfl
 | extract t ix =>
   rcases ext (a.eval t) ix with ⟨v,hv⟩ | hv
   ·refine key v fun w=>?_
    simp only [execOp,Sem.run_bind,hv w,Result.andThen_ok,Sem.run_pure]
   ·obtain ⟨y,w',h1,h2⟩:=hv w
    simp only [execOp,Sem.run_bind,h1,Result.andThen] at h
    cases y <;> first | exact absurd rfl (h2 _) | exact h.elim
 | _=>cases hp
theorem eag_any (hds:noDS l.toArray = true) (he:l.toArray[e]? = some oe) (hB:eagB l.toArray e oe = true) (hQ:∀ c a w,¬ Q (.panic c) a w) :
  ∀ (fuel:Nat) (listed:Array Bool) (a:Act) (w:World),listed.size = l.length→wpAnyIn F n P .any (eagE l e oe).toArray Q fuel listed a w→wpAnyIn F n P .any l.toArray Q fuel listed a w:=by
 unfold eagB at hB
 simp only [Bool.and_eq_true,Option.isNone_iff_eq_none] at hB
 obtain ⟨⟨⟨hg,hp⟩,_⟩,hall⟩:=hB
 have hel:e < l.length:=by
  have:=(Array.getElem?_eq_some_iff.1 he).1
  simpa using this
 -- nothing that waited for e alone is ready, or e is ready
 have cases3:∀ listed:Array Bool,listed.size = l.length→(listed.getD e false = true∨∃ x ∈ oe.after,Region.binds .any x = true∧listed.getD x.on false = false)∨(e ∈ Region.ready .any l.toArray listed∧e ∈ Region.ready .any (eagE l e oe).toArray listed∧∀ x ∈ oe.after,Region.binds .any x = true→listed.getD x.on false = true):=by
  intro listed hsz
  by_cases h1:listed.getD e false = true
  ·exact .inl (.inl h1)
  by_cases h2:∃ x ∈ oe.after,Region.binds .any x = true∧listed.getD x.on false = false
  ·exact .inl (.inr h2)
  have hall':∀ x ∈ oe.after,Region.binds .any x = true→listed.getD x.on false = true:=fun x hx hb=>by
   cases h:listed.getD x.on false with
   | true=>rfl
   | false=>exact absurd ⟨x,hx,hb,h⟩ h2
  have h1':listed.getD e true = false:=by
   have:listed.getD e false = false:=by simpa using h1
   exact getD_in (by rw [hsz]; exact hel) this
  refine .inr ⟨mem_ready.2 ⟨h1',oe,he,hall'⟩,mem_ready.2 ⟨h1',eagF e oe e oe,by rw [kq,he]; rfl,?_⟩,hall'⟩
  have:moreB e oe e oe = false:=by simp [moreB]
  unfold eagF
  rw [this]
  exact hall'
 intro fuel
 induction fuel with
 | zero =>
   intro listed a w hsz h
   rcases cases3 listed hsz with hc | hc
   ·refine ⟨List.eq_nil_iff_forall_not_mem.2 fun j hj=>?_,h.2⟩
    have:=qG hc hj
    rw [h.1] at this; cases this
   ·rw [h.1] at hc; cases hc.2.1
 | succ fuel ih =>
   intro listed a w hsz h
   rcases cases3 listed hsz with hc | hc
   ·refine ⟨fun h0=>h.1 (List.eq_nil_iff_forall_not_mem.2 fun j hj=>?_),fun i hi=>?_⟩
    ·have:=eag_ready hj
     rw [h0] at this; cases this
    ·have:=h.2 i (qG hc hi)
     rw [eag_wpOp] at this
     exact wpOpIn_mono (fun a' w' h'=>ih _ a' w' (by simpa using hsz) h') this
   ·have:=h.2 e hc.2.1
    rw [eag_wpOp] at this
    obtain ⟨v,hy,hk⟩:=pure_yields hp hg he hQ this
    refine ic he hds (fun c a w hq=>absurd hq (hQ c _ w)) fuel listed a w (fun j oj hj hji hun hno=>?_) hc.1 hy (ih _ _ _ (by simpa using hsz) hk)
    have hjs:j < l.toArray.size:=(Array.getElem?_eq_some_iff.1 hj).1
    have h1:=List.all_eq_true.1 hall j (List.mem_range.2 hjs)
    simp only [hj,Bool.or_eq_true,beq_iff_eq,hji,false_or] at h1
    rcases h1 with h1 | h1 | h1
    ·obtain ⟨x,hx,hb,hxo⟩:=ig h1
     have:=hc.2.2 x hx hb
     rw [hxo] at this
     have h2:=getD_both hun
     rw [h2] at this; cases this
    ·obtain ⟨x,hx,hb,hxo⟩:=ig h1
     exact absurd hxo (hno x hx hb)
    ·exact h1
end
def cF (rd:Option Nat) (P:Program) (Q:Exit→Act→World→Prop) (ops:Array Oper) (a:Act) (w:World):Prop :=
 wpAnyIn (FW rd) 0 P .any ops Q ops.size (Array.replicate ops.size false) a { w with drawn:=w.drawn + 1 }
theorem cF.wp {rd:Option Nat} {P:Program} {Q:Exit→Act→World→Prop} {ops:Array Oper} {a:Act} {w:World} {id:Nat} (hm:P.follows .mixedOrders = true) (h:cF rd P Q ops a w):(Code.region id ops true).wpIn (FW rd) 0 P Q a w :=
 wpIn_region_any hm h
theorem eag1_any {rd:Option Nat} {P:Program} {Q:Exit→Act→World→Prop} {l:List Oper} {d:Nat} {a:Act} {w:World} (hQ:∀ c a w,¬ Q (.panic c) a w) (h:cF rd P Q (eag1 l d).toArray a w):cF rd P Q l.toArray a w:=by
 unfold eag1 at h
 split at h
 case h_2=>exact h
 rename_i e _
 split at h
 case h_2=>exact h
 rename_i oe he
 split at h
 case isFalse=>exact h
 rename_i hB
 have hds:noDS l.toArray = true:=by
  have:=hB
  unfold eagB at this
  simp only [Bool.and_eq_true] at this
  exact this.1.2
 unfold cF at h ⊢
 have hsz:(eagE l e oe).toArray.size = l.toArray.size:=by simp [eagE]
 rw [hsz] at h
 exact eag_any hds (by simpa using he) hB hQ _ _ _ _ (by simp) h
theorem eagL_any {rd:Option Nat} {P:Program} {Q:Exit→Act→World→Prop} {a:Act} {w:World} (hQ:∀ c a w,¬ Q (.panic c) a w):∀ (ds:List Nat) (l:List Oper),cF rd P Q (eagL ds l).toArray a w→cF rd P Q l.toArray a w
 | [],_,h=>h
 | d::r,l,h=>eag1_any (d:=d) hQ (eagL_any hQ r (eag1 l d) h)
end Go.Fx
namespace Go.Fx
open Go
section
variable {G:Type} {P:Program} {ops:Array Oper} {n:Nat}
def aI (ops:Array Oper):Nat→Nat→Nat→Bool
 | 0,_,_=>false
 | f + 1, j, i => match ops[j]? with
   | some oj=>oj.after.any fun e=>Region.binds .any e && (e.on == i || aI ops f e.on i)
   | none=>false
theorem dh {listed:Array Bool} (inv:HeadInv .any ops n listed):∀ (f j i:Nat),aI ops f j i = true→listed.getD j false = true→listed.getD i false = true
 | 0,_,_,h,_=>by cases h
 | f + 1, j, i, h, hl => by
   unfold aI at h
   split at h
   ·rename_i oj hoj
    obtain ⟨e,he,hb⟩:=Array.any_eq_true'.1 h
    simp only [Bool.and_eq_true,Bool.or_eq_true,beq_iff_eq] at hb
    have h1:=inv.closed j oj hoj hl e he hb.1
    rcases hb.2 with h2 | h2
    ·rw [← h2]; exact h1
    ·exact dh inv f e.on i h2 h1
   ·cases h
def dataB (ops:Array Oper) (n:Nat):Bool :=
 (List.range n).all fun i=>match ops[i]? with
  | some o=>(o.looksAt ops).all fun d=>(List.range n).all fun k=>match ops[k]? with
    | some ok=>ok.dst != some d || (decide (k < i) && Region.waitsFor .any ops i k) || (decide (i < k) && aI ops n k i)
    | none=>true
  | none=>false
def nt (ops:Array Oper) (n:Nat):Bool :=
 (List.range n).all fun j=>match ops[j]? with
  | some o => match o.op with
    | .call { callee:=.builtin .append,.. }=>(o.looksAt ops).all fun d=>(List.range n).all fun k=>match ops[k]? with
      | some ok=>ok.dst != some d || decide (k < j)
      | none=>true
    | _=>true
  | none=>false
def backB (ops:Array Oper) (n:Nat):Bool :=
 (List.range n).all fun i=>match ops[i]? with
  | some o=>o.after.all fun e=>!Region.binds .any e || decide (e.on < i)
  | none=>false
def gm (n size:Nat):Array Bool:=(Array.range size).map fun i=>decide (i < n)
def dirB (ops:Array Oper) (n:Nat):Bool :=
 decide (n≤ops.size) && dataB ops n && backB ops n && pe ops n &&
  (n == ops.size || (Region.sinkB .any ops n && Region.chainB .any ops n && Region.seqB .any ops (ops.size - n) n (gm n ops.size)))
def nF:Op→Bool
 | .move _ | .assign _ | .binOp ..=>true
 | _=>false
def lateS (ops:Array Oper) (n:Nat):List Nat:=(List.range n).filter fun i=>!aI ops 8 n i
def late1 (ops:Array Oper) (i:Nat):Bool :=
 match ops[i]? with
 | none=>false
 | some oi => oi.guard.isNone && nF oi.op && (List.range ops.size).all fun j => j == i || onB oi j || match ops[j]? with
   | some oj=>onB oj i || oi.apart ops oj
   | none=>true
def lateB (ops:Array Oper) (n:Nat):Bool :=
 decide (n < ops.size) && noDS ops && Region.chainB .any ops n && Region.seqB .any ops (ops.size - n) n (gm n ops.size) && (lateS ops n).all (late1 ops)
def dirL (lt:Bool) (ops:Array Oper) (n:Nat):Bool :=
 decide (n≤ops.size) && dataB ops n && backB ops n && pe ops n &&
  (n == ops.size || (Region.sinkB .any ops n && Region.chainB .any ops n && Region.seqB .any ops (ops.size - n) n (gm n ops.size)) || (lt && lateB ops n))
theorem d6 {ops:Array Oper} {n:Nat} (h:dirB ops n = true) (lt:Bool):dirL lt ops n = true:=by
 unfold dirB at h
 unfold dirL
 simp only [Bool.and_eq_true,Bool.or_eq_true] at h ⊢
 exact ⟨h.1,.inl h.2⟩
def Seen (ops:Array Oper) (n:Nat) (F:Nat→Value→G→World→Prop) (a0:Act) (i:Nat) (o:Oper) (a:Act) (g:G) (w:World):Prop :=
 a.defers = a0.defers∧a.tmps.size = a0.tmps.size ∧
 ∀ d ∈ o.looksAt ops,(∀ k ok,k < i→k < n→ops[k]? = some ok→ok.dst = some d→F k (a.tmps.getD d undef) g w) ∧
  ((∀ k ok,k < i→ops[k]? = some ok→ok.dst≠some d)→a.tmps[d]? = a0.tmps[d]?)
def Fin (ops:Array Oper) (n:Nat) (F:Nat→Value→G→World→Prop) (a0:Act) (a:Act) (g:G) (w:World):Prop :=
 a.defers = a0.defers∧a.tmps.size = a0.tmps.size ∧
 (∀ k ok,k < n→ops[k]? = some ok→∃ v,F k v g w∧∀ d,ok.dst = some d→a.tmps.getD d undef = v) ∧
 ∀ d,(∀ k ok,k < n→ops[k]? = some ok→ok.dst≠some d)→a.tmps[d]? = a0.tmps[d]?
structure DInv (ops:Array Oper) (n:Nat) (Le:G→World→G→World→Prop) (g0:G) (w0:World) (F:Nat→Value→G→World→Prop) (U:Nat→G→World→Prop) (a0:Act) (listed:Array Bool) (a:Act) (g:G) (w:World):Prop where
 size:listed.size = ops.size
 le:Le g0 w0 g w
 defers:a.defers = a0.defers
 tsize:a.tmps.size = a0.tmps.size
 done:∀ k ok,k < n→ops[k]? = some ok→listed.getD k false = true→∃ v,F k v g w∧∀ d,ok.dst = some d→a.tmps.getD d undef = v
 todo:∀ k,k < n→listed.getD k false = false→U k g w
 same:∀ d,(∀ k ok,k < n→ops[k]? = some ok→listed.getD k false = true→ok.dst≠some d)→a.tmps[d]? = a0.tmps[d]?
 head:HeadInv .any ops n listed
def unl (n:Nat) (listed:Array Bool):Nat:=((List.range n).filter fun k=>!listed.getD k false).length
theorem pu {i:Nat} {p q:Nat→Bool}:∀ {l:List Nat},l.Nodup→i ∈ l→p i = true→q i = false→(∀ k,k≠i→p k = q k)→(l.filter p).length = (l.filter q).length + 1
 | [],_,h,_,_,_=>by cases h
 | x :: l, hnd, h, hp, hq, hpq => by
   obtain ⟨hx,hnd⟩:=List.nodup_cons.1 hnd
   by_cases e:x = i
   ·subst e
    have:l.filter p = l.filter q:=List.filter_congr fun k hk=>hpq k fun e=>hx (e ▸ hk)
    simp [hp,hq,this]
   ·have hi:i ∈ l:=(List.mem_cons.1 h).resolve_left fun e'=>e e'.symm
    have ih:=pu hnd hi hp hq hpq
    simp only [List.filter_cons,hpq x e]
    split
    ·simp only [List.length_cons,ih]
    ·exact ih
theorem unl_set {listed:Array Bool} {i:Nat} (hi:i < n) (hs:i < listed.size) (hu:listed.getD i false = false):unl n listed = unl n (listed.setIfInBounds i true) + 1:=by
 refine pu List.nodup_range (List.mem_range.2 hi) (by simp [hu]) (by simp [hs]) fun k hk=>?_
 rw [getD_set_ne false (Ne.symm hk)]
theorem unl_zero {listed:Array Bool} (h:unl n listed = 0) {k:Nat} (hk:k < n):listed.getD k false = true:=by
 have:=List.eq_nil_of_length_eq_zero h
 have h2:=List.filter_eq_nil_iff.1 this k (List.mem_range.2 hk)
 simpa using h2
def LeU (n:Nat) (Le:G→World→G→World→Prop) (U:Nat→G→World→Prop) (i:Nat) (g:G) (w:World) (g':G) (w':World):Prop :=
 Le g w g' w'∧∀ k,k < n→k≠i→U k g w→U k g' w'
theorem rF {rd:Option Nat} {Le:G→World→G→World→Prop} {g0:G} {w0:World} {F:Nat→Value→G→World→Prop} {U:Nat→G→World→Prop} {a0:Act} {Q:Exit→Act→World→Prop} {l:List Oper}
  (hst:∀ k v g w g' w',Le g0 w0 g w→Le g w g' w'→F k v g w→F k v g' w') (htr:∀ a b c d e f,Le a b c d→Le c d e f→Le a b e f)
  {lt:Bool} (hB:dirL lt l.toArray n = true) (hts:∀ k o d,k < n→l.toArray[k]? = some o→o.dst = some d→d < a0.tmps.size)
  (hlate:lt = true→∀ i o,i < n→l.toArray[i]? = some o→nF o.op = true→o.guard = none→∀ a g w,Le g0 w0 g w→Seen l.toArray n F a0 i o a g w→U i g w→∃ v,YieldsFenced P l.toArray o v a∧F i v g w)
  (hQp:lt = true→∀ c a w,¬ Q (.panic c) a w)
  (hstep:∀ i o,i < n→l.toArray[i]? = some o→∀ a g w,Le g0 w0 g w→Seen l.toArray n F a0 i o a g w→U i g w→(∀ j f,j < n→aI l.toArray f j i = true→U j g w) →
   (∀ k ok,k < n→l.toArray[k]? = some ok→aI l.toArray n i k = true→∃ v,F k v g w) →
   (Region.wanted o (yielded l.toArray a.tmps) = true→aQ P (LeU n Le U i) o a g w (F i))∧(Region.wanted o (yielded l.toArray a.tmps) = false→F i undef g w))
  (hfin:∀ a g w,Le g0 w0 g w→Fin l.toArray n F a0 a g w→wpListIn (FW rd) 0 P l.toArray Q (l.drop n) a w) :
  ∀ (f:Nat) (listed:Array Bool) (a:Act) (g:G) (w:World),unl n listed = f→DInv l.toArray n Le g0 w0 F U a0 listed a g w→wpAnyIn (FW rd) 0 P .any l.toArray Q (f + (l.length - n)) listed a w:=by
 unfold dirL at hB
 simp only [Bool.and_eq_true,decide_eq_true_eq,Bool.or_eq_true,beq_iff_eq] at hB
 obtain ⟨⟨⟨⟨hn,hdata⟩,hback⟩,halone⟩,htail0⟩:=hB
 have hnl:n≤l.length:=by simpa using hn
 have htail:n = l.toArray.size∨Region.seqB .any l.toArray (l.toArray.size - n) n (gm n l.toArray.size) = true:=by
  rcases htail0 with (h | h) | h
  ·exact .inl h
  ·exact .inr h.2
  ·have:=h.2
   unfold lateB at this
   simp only [Bool.and_eq_true,decide_eq_true_eq] at this
   exact .inr this.1.2
 have hout:∀ listed,HeadInv .any l.toArray n listed→∀ i,i < n→listed.getD i true = false→(∀ k,k < n→k < i→listed.getD k false = true)→∀ t,n≤t→t ∈ Region.ready .any l.toArray listed→lt = true∧noDS l.toArray = true∧late1 l.toArray i = true:=by
  intro listed inv i hi hu hmin t ht hr
  rcases htail0 with (h | h) | h
  ·obtain ⟨_,o,ho,_⟩:=mem_ready.1 hr
   have:=(Array.getElem?_eq_some_iff.1 ho).1
   omega
  ·have hlt:n < l.toArray.size:=by
    obtain ⟨_,o,ho,_⟩:=mem_ready.1 hr
    have:=(Array.getElem?_eq_some_iff.1 ho).1
    omega
   exact absurd hr (tail_waits h.1.1 h.1.2 hlt inv _ i rfl hi hu t ht)
  ·obtain ⟨hlt,hlb⟩:=h
   unfold lateB at hlb
   simp only [Bool.and_eq_true,decide_eq_true_eq] at hlb
   obtain ⟨⟨⟨⟨hnlt,hds⟩,hch⟩,_⟩,hall⟩:=hlb
   refine ⟨hlt,hds,?_⟩
   obtain ⟨_,ot,hot,hrt⟩:=mem_ready.1 hr
   have htlt:t < l.toArray.size:=(Array.getElem?_eq_some_iff.1 hot).1
   by_cases htn:t = n
   ·refine List.all_eq_true.1 hall i (List.mem_filter.2 ⟨List.mem_range.2 hi,?_⟩)
    cases hw:aI l.toArray 8 n i with
    | false=>rfl
    | true =>
      exfalso
      subst htn
      unfold aI at hw
      rw [hot] at hw
      obtain ⟨e,he,hb⟩:=Array.any_eq_true'.1 hw
      simp only [Bool.and_eq_true,Bool.or_eq_true,beq_iff_eq] at hb
      have h1:=hrt e he hb.1
      have h0:=getD_both hu
      rcases hb.2 with h2 | h2
      ·rw [h2,h0] at h1; cases h1
      ·rw [dh inv 7 e.on i h2 h1] at h0; cases h0
   ·exfalso
    have h1:=List.all_eq_true.1 hch t (List.mem_range.2 htlt)
    simp only [Bool.or_eq_true,decide_eq_true_eq] at h1
    rcases h1 with h1 | h1
    ·omega
    ·obtain ⟨o',ho',e,he,hb,hon⟩:=Region.waitsFor_spec h1
     have:o' = ot:=Option.some.inj (ho'.symm.trans hot)
     subst this
     have h2:=hrt e he hb
     rw [hon,getD_both (inv.tail (t - 1) (by omega) (by omega))] at h2
     cases h2
 intro f
 induction f with
 | zero =>
   intro listed a g w hu inv
   have hall:∀ k,k < n→listed.getD k false = true:=fun k hk=>unl_zero hu hk
   have hF:Fin l.toArray n F a0 a g w:=⟨inv.defers,inv.tsize,fun k ok hk ho=>inv.done k ok hk ho (hall k hk),fun d hd=>inv.same d fun k ok hk ho _=>hd k ok hk ho⟩
   have hlist:listed = gm n l.toArray.size:=by
    apply Array.ext
    ·simp [gm,inv.size]
    ·intro i h1 h2
     simp only [gm,Array.getElem_map,Array.getElem_range]
     by_cases hi:i < n
     ·have:=hall i hi
      simp [h1] at this
      simp [this,hi]
     ·have:=inv.head.tail i (by omega) (by rw [← inv.size]; exact h1)
      simp [h1] at this
      simp [this,hi]
   have hseq:Region.seqB .any l.toArray (l.length - n) n listed = true:=by
    rcases htail with h | h
    ·have hz:l.length - n = 0:=by simp at h; omega
     rw [hz]
     simp only [Region.seqB,List.isEmpty_iff]
     refine List.eq_nil_iff_forall_not_mem.2 fun j hj=>?_
     obtain ⟨hju,o,ho,_⟩:=mem_ready.1 hj
     have hlt:=(Array.getElem?_eq_some_iff.1 ho).1
     have:=hall j (by omega)
     rw [getD_both hju] at this; cases this
    ·rw [hlist]
     simpa using h
   have:=ia (F:=FW rd) (n:=0) (P:=P) (md:=.any) (Q':=Q) (ops:=l.toArray) (l.drop n) n listed a w (fun j=>by simp [List.getElem?_drop]) (by simpa using hseq) (hfin a g w inv.le hF)
   simpa using this
 | succ f ih =>
   intro listed a g w hu inv
   rw [show f + 1 + (l.length - n) = (f + (l.length - n)) + 1 by omega]
   -- some operation of the head is not done
   have hne:∃ k,k < n∧listed.getD k false = false:=by
    apply Classical.byContradiction
    intro hno
    have:unl n listed = 0:=by
     unfold unl
     rw [List.filter_eq_nil_iff.2 fun k hk=>?_]
     ·rfl
     ·have:¬ listed.getD k false = false:=fun e=>hno ⟨k,List.mem_range.1 hk,e⟩
      simpa using this
    omega
   obtain ⟨k0,hk0,hku0⟩:=hne
   have hk0':listed.getD k0 true = false:=getD_in (by rw [inv.size]; omega) hku0
   have key:∀ m,(∃ k,k < n∧k < m∧listed.getD k false = false)→∃ k,k ∈ Region.ready .any l.toArray listed∧k < n∧listed.getD k false = false∧∀ q,q < n→q < k→listed.getD q false = true:=by
    intro m
    induction m with
    | zero=>rintro ⟨k,_,h,_⟩; omega
    | succ m ihm =>
      rintro ⟨k,hk,hkm,hun⟩
      by_cases hex:∃ k,k < n∧k < m∧listed.getD k false = false
      ·exact ihm hex
      ·have hkm':k = m:=by
        apply Classical.byContradiction
        intro hne
        exact hex ⟨k,hk,by omega,hun⟩
       subst hkm'
       have hks:k < l.toArray.size:=by omega
       refine ⟨k,mem_ready.2 ⟨getD_in (by rw [inv.size]; exact hks) hun,l.toArray[k],Array.getElem?_eq_getElem hks,fun e he hb=>?_⟩,hk,hun,fun q hq hqk=>Classical.byContradiction fun hno=>hex ⟨q,hq,hqk,by simpa using hno⟩⟩
       have h1:=List.all_eq_true.1 hback k (List.mem_range.2 hk)
       rw [Array.getElem?_eq_getElem hks] at h1
       have h2:=Array.all_eq_true_iff_forall_mem.1 h1 e he
       simp only [hb,Bool.not_true,Bool.false_or,decide_eq_true_eq] at h2
       apply Classical.byContradiction
       intro hno
       exact hex ⟨e.on,by omega,h2,by simpa using hno⟩
   -- nothing is done
   have stay:∀ i o,i < n→l.toArray[i]? = some o→i ∈ Region.ready .any l.toArray listed→∀ v,F i v g w→wpAnyIn (FW rd) 0 P .any l.toArray Q (f + (l.length - n)) (listed.setIfInBounds i true) (a.put o.dst v) w:=by
    intro i o hin ho hi v hF
    have hiu':=getD_both (mem_ready.1 hi).1
    have his:i < listed.size:=by rw [inv.size]; exact (Array.getElem?_eq_some_iff.1 ho).1
    have hfu:unl n (listed.setIfInBounds i true) = f:=by have:=unl_set hin his hiu'; omega
    refine ih _ _ g w hfu ⟨by simp [inv.size],inv.le,?_,?_,fun k ok hk hok hl=>?_,fun k hk hl=>?_,fun d hd=>?_,inv.head.set hi hin⟩
    ·cases h:o.dst <;> simp [Act.put,inv.defers]
    ·cases h:o.dst <;> simp [Act.put,inv.tsize]
    ·by_cases hki:i = k
     ·subst hki
      have:ok = o:=Option.some.inj (hok.symm.trans ho)
      subst this
      refine ⟨v,hF,fun d hd=>?_⟩
      have hlt:=hts i ok d hin hok hd
      rw [← inv.tsize] at hlt
      simp [Act.put,hd,hlt]
     ·obtain ⟨v,hv,hvd⟩:=inv.done k ok hk hok (dB hl hki)
      refine ⟨v,hv,fun d hd=>?_⟩
      rw [gZ (jJ halone hk hin hok ho hd hki)]
      exact hvd d hd
    ·by_cases hki:i = k
     ·subst hki; simp [his] at hl
     ·rw [getD_set_ne false hki] at hl
      exact inv.todo k hk hl
    ·have hne:o.dst≠some d:=hd i o hin ho (by simp [his])
     have h1:(a.put o.dst v).tmps[d]? = a.tmps[d]?:=by
      cases h:o.dst with
      | none=>rfl
      | some t =>
        have:t≠d:=fun e=>hne (by rw [h,e])
        simp [Act.put,Array.getElem?_setIfInBounds_ne this]
     rw [h1]
     exact inv.same d fun k ok hk hok hl=>hd k ok hk hok (getD_set_true hl)
   have seen:∀ i o,i < n→l.toArray[i]? = some o→i ∈ Region.ready .any l.toArray listed→Seen l.toArray n F a0 i o a g w:=by
    intro i o hin ho hi
    have hiu':=getD_both (mem_ready.1 hi).1
    obtain ⟨_,o1,ho1,hall⟩:=mem_ready.1 hi
    obtain rfl:o1 = o:=Option.some.inj (ho1.symm.trans ho)
    refine ⟨inv.defers,inv.tsize,fun d hd=>⟨fun k ok hki hk hok hdk=>?_,fun hno=>inv.same d fun k ok hk hok hl e=>?_⟩⟩
    ·have h1:=List.all_eq_true.1 hdata i (List.mem_range.2 hin)
     rw [ho] at h1
     have h2:=List.all_eq_true.1 (List.all_eq_true.1 h1 d hd) k (List.mem_range.2 hk)
     rw [hok] at h2
     have hnik:¬ i < k:=by omega
     simp only [hdk,bne_self_eq_false,Bool.false_or,Bool.and_eq_true,Bool.or_eq_true,decide_eq_true_eq,hnik,false_and,or_false] at h2
     obtain ⟨oj,hoj,e,he,hb,hek⟩:=Region.waitsFor_spec h2.2
     have:oj = _:=Option.some.inj (hoj.symm.trans ho)
     subst this
     have hl:=hall e he hb
     rw [hek] at hl
     obtain ⟨v,hv,hvd⟩:=inv.done k ok hk hok hl
     rw [hvd d hdk]; exact hv
    ·have h1:=List.all_eq_true.1 hdata i (List.mem_range.2 hin)
     rw [ho] at h1
     have h2:=List.all_eq_true.1 (List.all_eq_true.1 h1 d hd) k (List.mem_range.2 hk)
     rw [hok] at h2
     simp only [e,bne_self_eq_false,Bool.false_or,Bool.and_eq_true,Bool.or_eq_true,decide_eq_true_eq] at h2
     rcases h2 with h3 | h3
     ·exact hno k ok h3.1 hok e
     ·have:=dh inv.head n k i h3.2 hl
      rw [this] at hiu'; cases hiu'
   by_cases hex:∃ t,n≤t∧t ∈ Region.ready .any l.toArray listed
   ·obtain ⟨t,ht,hrt⟩:=hex
    obtain ⟨k,hkr,hkn,hku,hkm⟩:=key (k0 + 1) ⟨k0,hk0,by omega,hku0⟩
    have hks:k < listed.size:=by rw [inv.size]; omega
    obtain ⟨hlt,hds,hl1⟩:=hout listed inv.head k hkn (getD_in hks hku) hkm t ht hrt
    unfold late1 at hl1
    have hok:l.toArray[k]? = some (l.toArray[k]'(by omega)):=Array.getElem?_eq_getElem _
    generalize l.toArray[k]'(by omega) = ok at hok
    rw [hok] at hl1
    simp only [Bool.and_eq_true,Option.isNone_iff_eq_none] at hl1
    obtain ⟨⟨hg,hop⟩,hap⟩:=hl1
    obtain ⟨v,hy,hF⟩:=hlate hlt k ok hkn hok hop hg a g w inv.le (seen k ok hkn hok hkr) (inv.todo k hkn hku)
    refine ic hok hds (fun c a w h=>absurd h (hQp hlt c _ w)) _ listed a w (fun j oj hj hjk hju hno=>?_) hkr hy (stay k ok hkn hok hkr v hF)
    have h1:=List.all_eq_true.1 hap j (List.mem_range.2 (Array.getElem?_eq_some_iff.1 hj).1)
    rw [hj] at h1
    simp only [Bool.or_eq_true,beq_iff_eq] at h1
    rcases h1 with (h1 | h1) | h1 | h1
    ·exact absurd h1 hjk
    ·obtain ⟨x,hx,hb,hon⟩:=ig h1
     obtain ⟨_,o1,ho1,hall⟩:=mem_ready.1 hkr
     obtain rfl:o1 = ok:=Option.some.inj (ho1.symm.trans hok)
     have:=hall x hx hb
     rw [hon] at this
     rw [getD_both hju] at this; cases this
    ·obtain ⟨x,hx,hb,hon⟩:=ig h1
     exact absurd hon (hno x hx hb)
    ·exact h1
   refine ⟨fun hempty=>?_,fun i hi=>?_⟩
   ·exfalso
    obtain ⟨k,hk,_⟩:=key (k0 + 1) ⟨k0,hk0,by omega,hku0⟩
    rw [hempty] at hk; cases hk
   ·have hin:i < n:=by
     rcases Nat.lt_or_ge i n with h | h
     ·exact h
     ·exact absurd ⟨i,h,hi⟩ hex
    obtain ⟨hiu,o,ho,hall⟩:=mem_ready.1 hi
    have hiu':=getD_both hiu
    have his:i < listed.size:=by rw [inv.size]; exact (Array.getElem?_eq_some_iff.1 ho).1
    have hseen:=seen i o hin ho hi
    obtain ⟨hyes,hno⟩:=hstep i o hin ho a g w inv.le hseen (inv.todo i hin hiu') (fun j f hj hwt=>inv.todo j hj (Classical.byContradiction fun hne=>by
     have:=dh inv.head f j i hwt (by simpa using hne)
     rw [this] at hiu'; cases hiu')) (fun k ok hk hok hwt=>by
     have hlk:listed.getD k false = true:=by
      obtain ⟨n',rfl⟩:∃ n',n = n' + 1:=⟨n - 1,by omega⟩
      unfold aI at hwt
      rw [ho] at hwt
      obtain ⟨e,he,hb⟩:=Array.any_eq_true'.1 hwt
      simp only [Bool.and_eq_true,Bool.or_eq_true,beq_iff_eq] at hb
      have h1:=hall e he hb.1
      rcases hb.2 with h2 | h2
      ·rw [← h2]; exact h1
      ·exact dh inv.head n' e.on k h2 h1
     obtain ⟨v,hv,_⟩:=inv.done k ok hk hok hlk
     exact ⟨v,hv⟩)
    -- the state behind
    have next:∀ (u:Value) (g':G) (w':World),LeU n Le U i g w g' w'→F i u g' w'→wpAnyIn (FW rd) 0 P .any l.toArray Q (f + (l.length - n)) (listed.setIfInBounds i true) (a.put o.dst u) w':=by
     intro u g' w' hle hF
     have hfu:unl n (listed.setIfInBounds i true) = f:=by have:=unl_set hin his hiu'; omega
     refine ih _ _ g' w' hfu ⟨by simp [inv.size],htr _ _ _ _ _ _ inv.le hle.1,?_,?_,fun k ok hk hok hl=>?_,fun k hk hl=>?_,fun d hd=>?_,inv.head.set hi hin⟩
     ·cases h:o.dst <;> simp [Act.put,inv.defers]
     ·cases h:o.dst <;> simp [Act.put,inv.tsize]
     ·by_cases hki:i = k
      ·subst hki
       have:ok = o:=Option.some.inj (hok.symm.trans ho)
       subst this
       refine ⟨u,hF,fun d hd=>?_⟩
       have hlt:=hts i ok d hin hok hd
       rw [← inv.tsize] at hlt
       simp [Act.put,hd,hlt]
      ·obtain ⟨v,hv,hvd⟩:=inv.done k ok hk hok (dB hl hki)
       refine ⟨v,hst _ _ _ _ _ _ inv.le hle.1 hv,fun d hd=>?_⟩
       rw [gZ (jJ halone hk hin hok ho hd hki)]
       exact hvd d hd
     ·by_cases hki:i = k
      ·subst hki; simp [his] at hl
      ·rw [getD_set_ne false hki] at hl
       exact hle.2 k hk (Ne.symm hki) (inv.todo k hk hl)
     ·have hne:o.dst≠some d:=hd i o hin ho (by simp [his])
      have h1:(a.put o.dst u).tmps[d]? = a.tmps[d]?:=by
       cases h:o.dst with
       | none=>rfl
       | some t =>
         have:t≠d:=fun e=>hne (by rw [h,e])
         simp [Act.put,Array.getElem?_setIfInBounds_ne this]
      rw [h1]
      exact inv.same d fun k ok hk hok hl=>hd k ok hk hok (getD_set_true hl)
    unfold wpOpIn
    simp only [ho]
    by_cases hwi:Region.wanted o (yielded l.toArray a.tmps) = true
    ·rw [if_pos hwi]
     exact pt (hyes hwi) fun v g' w' hle hF=>next v g' w' hle hF
    ·have hwi:Region.wanted o (yielded l.toArray a.tmps) = false:=by simpa using hwi
     rw [hwi]
     simp only [Bool.false_eq_true,if_false]
     exact ⟨fun _ _=>trivial,stay i o hin ho hi undef (hno hwi)⟩
theorem fI {rd:Option Nat} {Le:G→World→G→World→Prop} {g0:G} {w0:World} {F:Nat→Value→G→World→Prop} {U:Nat→G→World→Prop} {a0:Act} {Q:Exit→Act→World→Prop} {l:List Oper}
  (hst:∀ k v g w g' w',Le g0 w0 g w→Le g w g' w'→F k v g w→F k v g' w') (htr:∀ a b c d e f,Le a b c d→Le c d e f→Le a b e f) (hdr:Le g0 w0 g0 { w0 with drawn:=w0.drawn + 1 })
  {lt:Bool} (hB:dirL lt l.toArray n = true) (hts:∀ k o d,k < n→l.toArray[k]? = some o→o.dst = some d→d < a0.tmps.size)
  (hlate:lt = true→∀ i o,i < n→l.toArray[i]? = some o→nF o.op = true→o.guard = none→∀ a g w,Le g0 w0 g w→Seen l.toArray n F a0 i o a g w→U i g w→∃ v,YieldsFenced P l.toArray o v a∧F i v g w)
  (hQp:lt = true→∀ c a w,¬ Q (.panic c) a w) (hU:∀ k,k < n→U k g0 { w0 with drawn:=w0.drawn + 1 })
  (hstep:∀ i o,i < n→l.toArray[i]? = some o→∀ a g w,Le g0 w0 g w→Seen l.toArray n F a0 i o a g w→U i g w→(∀ j f,j < n→aI l.toArray f j i = true→U j g w) →
   (∀ k ok,k < n→l.toArray[k]? = some ok→aI l.toArray n i k = true→∃ v,F k v g w) →
   (Region.wanted o (yielded l.toArray a.tmps) = true→aQ P (LeU n Le U i) o a g w (F i))∧(Region.wanted o (yielded l.toArray a.tmps) = false→F i undef g w))
  (hfin:∀ a g w,Le g0 w0 g w→Fin l.toArray n F a0 a g w→wpListIn (FW rd) 0 P l.toArray Q (l.drop n) a w):cF rd P Q l.toArray a0 w0:=by
 unfold cF
 have hn:n≤l.length:=by
  unfold dirL at hB
  simp only [Bool.and_eq_true,decide_eq_true_eq] at hB
  simpa using hB.1.1.1.1
 have hu:unl n (Array.replicate l.toArray.size false) = n:=by
  unfold unl
  rw [List.filter_eq_self.2 fun k _=>by rw [getD_replicate_false]; rfl]
  simp
 have:=rF (P:=P) (rd:=rd) (Q:=Q) hst htr hB hts hlate hQp hstep hfin n (Array.replicate l.toArray.size false) a0 g0 { w0 with drawn:=w0.drawn + 1 } hu
  ⟨by simp,hdr,rfl,rfl,fun k ok _ _ hl=>(by rw [getD_replicate_false] at hl; cases hl),fun k hk _=>hU k hk,fun d _=>rfl,ql n⟩
 have he:n + (l.length - n) = l.toArray.size:=by simp; omega
 rwa [he] at this
end
end Go.Fx
namespace Go.Fx
open Go Go.RowKit Go.Lib
inductive PK where
 | val (v:AV)
 | skip
 | new (s:Nat) (cs:List AV)
 | store (s:Nat) (cs:List AV)
 | nst (s:Nat) (cs:List AV)
 | app (t:Nat) (v:AV)
 | mk (v:AV) (st:St)
 | hole
 | chole (f:FuncId) (vs:List AV)
def Tch (d:Nat) (ks:List PK) (j:Nat) (c:Option Cls):Prop :=
 match ks[j]? with
 | some (.store s _)=>c = some (.loc d s)
 | some (.nst s _)=>c = some (.loc d s)
 | some (.app t _)=>∃ k,c = some (.arr (.slot d t k))
 | some (PK.mk _ _)=>∀ c',c = some c'→¬ ft (d + 1) c'
 | _=>False
theorem pv {d:Nat} {ks:List PK} {j:Nat} {c:Option Cls} (h:Tch d ks j c):(∃ s cs,(ks[j]? = some (.store s cs)∨ks[j]? = some (.nst s cs))∧c = some (.loc d s))∨(∃ t v k,ks[j]? = some (.app t v)∧c = some (.arr (.slot d t k)))∨(∃ v st,ks[j]? = some (PK.mk v st)∧∀ c',c = some c'→¬ ft (d + 1) c'):=by
 unfold Tch at h
 split at h
 ·exact .inl ⟨_,_,.inl (by assumption),h⟩
 ·exact .inl ⟨_,_,.inr (by assumption),h⟩
 ·obtain ⟨k,h⟩:=h; exact .inr (.inl ⟨_,_,k,by assumption,h⟩)
 ·exact .inr (.inr ⟨_,_,by assumption,h⟩)
 ·exact h.elim
abbrev GF:=Gh×(Nat→Bool)
structure LeD (d N:Nat) (ks:List PK) (q:GF) (w:World) (q':GF) (w':World):Prop where
 os:w'.os = w.os
 tape:w'.tape = w.tape
 output:w'.output = w.output
 size:w.heap.size≤w'.heap.size
 base:q'.1.base = q.1.base
 bx:∀ id b,q.1.bx id = some b→q'.1.bx id = some b
 bxe:(∀ j v st,ks[j]? = some (PK.mk v st)→q.2 j = q'.2 j)→q'.1.bx = q.1.bx
 lb:∀ d',d'≤d→q'.1.lb d' = q.1.lb d'
 lbn:∀ k s cs,ks[k]? = some (PK.new s cs)→q.2 k = true→q'.1.lb (d + 1) s = q.1.lb (d + 1) s
 imm:∀ b o u,q.1.imm b o = some u→q'.1.imm b o = some u
 fl:∀ j,q.2 j = true→q'.2 j = true
 fe:∀ j,ks.length≤j→q'.2 j = q.2 j
 keep:∀ b,b < w.heap.size→(∀ j,Tch d ks j (q.1.cls b)→q.2 j = q'.2 j)→w'.heap[b]? = w.heap[b]?∧q'.1.imm b = q.1.imm b∧q'.1.cls b = q.1.cls b
 lowb:∀ b,b < q.1.base→w'.heap[b]? = w.heap[b]?
 low:∀ b,b < N→w'.heap[b]? = w.heap[b]?∧q'.1.imm b = q.1.imm b∧q'.1.cls b = q.1.cls b
 good:Good q.1 w→Good q'.1 w'
 cll:∀ b s,b < w.heap.size→q.1.cls b = some (.loc d s)→q'.1.cls b = some (.loc d s)
theorem LeD.trans {d N:Nat} {ks:List PK} {a:GF} {wa:World} {b:GF} {wb:World} {c:GF} {wc:World} (h:LeD d N ks a wa b wb) (k:LeD d N ks b wb c wc):LeD d N ks a wa c wc:=by
 have flag:∀ j,a.2 j = c.2 j→a.2 j = b.2 j∧b.2 j = c.2 j:=fun j this=>by
  cases e:a.2 j with
  | true=>exact ⟨(h.fl j e).symm,by rw [h.fl j e,← this,e]⟩
  | false =>
    cases e2:b.2 j with
    | false=>exact ⟨rfl,by rw [← this,e]⟩
    | true=>rw [e,k.fl j e2] at this; cases this
 refine ⟨k.os.trans h.os,k.tape.trans h.tape,k.output.trans h.output,Nat.le_trans h.size k.size,k.base.trans h.base,fun id b e=>k.bx id b (h.bx id b e),fun hm=>(k.bxe fun j v st hj=>(flag j (hm j v st hj)).2).trans (h.bxe fun j v st hj=>(flag j (hm j v st hj)).1),fun d' hd=>(k.lb d' hd).trans (h.lb d' hd),fun kk s cs hk hf=>(k.lbn kk s cs hk (h.fl _ hf)).trans (h.lbn kk s cs hk hf),
  fun x o u e=>k.imm _ _ _ (h.imm _ _ _ e),fun j e=>k.fl j (h.fl j e),fun j hj=>(k.fe j hj).trans (h.fe j hj),fun x hx hT=>?_,fun b hb=>(k.lowb b (by rw [h.base]; exact hb)).trans (h.lowb b hb),fun b hb=>⟨(k.low b hb).1.trans (h.low b hb).1,(k.low b hb).2.1.trans (h.low b hb).2.1,(k.low b hb).2.2.trans (h.low b hb).2.2⟩,fun g=>k.good (h.good g),fun b s hb hc=>k.cll b s (Nat.lt_of_lt_of_le hb h.size) (h.cll b s hb hc)⟩
 obtain ⟨h1,h2,h3⟩:=h.keep x hx fun j ht=>(flag j (hT j ht)).1
 obtain ⟨k1,k2,k3⟩:=k.keep x (Nat.lt_of_lt_of_le hx h.size) fun j ht=>by
  rw [h3] at ht
  exact (flag j (hT j ht)).2
 exact ⟨k1.trans h1,k2.trans h2,k3.trans h3⟩
theorem LeP.leD {d N:Nat} {ks:List PK} {g g':Gh} {fl:Nat→Bool} {w w':World} (h:LeP g w g' w') (hg:Good g w) (hN:N≤w.heap.size):LeD d N ks (g,fl) w (g',fl) w' :=
 ⟨h.below.os,h.below.tape,h.below.output,h.below.size,h.base,(h.ghle hg).bx,fun _=>h.bx,fun _ _=>by rw [h.lb],fun _ _ _ _ _=>by rw [h.lb],(h.ghle hg).imm,fun _ e=>e,fun _ _=>rfl,fun b hb _=>⟨h.below.block b hb,h.imm b hb,h.cls b hb⟩,fun b hb=>h.below.block b (Nat.lt_of_lt_of_le hb hg.base),fun b hb=>⟨h.below.block b (Nat.lt_of_lt_of_le hb hN),h.imm b (Nat.lt_of_lt_of_le hb hN),h.cls b (Nat.lt_of_lt_of_le hb hN)⟩,h.good,fun b s hb hc=>by rw [h.cls b hb]; exact hc⟩
theorem LeD.ghle {d N:Nat} {ks:List PK} {q q':GF} {w w':World} (h:LeD d N ks q w q' w'):GhLe q.1 q'.1:=⟨h.imm,h.bx⟩
section
variable {d N:Nat} {ks:List PK} {q q':GF} {w w':World}
def NoMk (ks:List PK) (q q':GF):Prop:=∀ j v st,ks[j]? = some (PK.mk v st)→q.2 j = q'.2 j
theorem Own.leD {M:Nat} {L:Loc} {a:AV} {u:Value} (h:LeD d N ks q w q' w') (hg:Good q.1 w) (hL:∀ j,Tch d ks j (some (.arr L))→q.2 j = q'.2 j) (ho:Own q.1 w M L a u):Own q'.1 w' M L a u:=by
 refine ⟨fun k es e=>?_,fun id s l stp e=>?_⟩
 ·rcases ho.1 k es e with h0 | ⟨b,o,c,cur,T,h1,hN,h2,h3,h4,h5,h6⟩
  ·exact .inl h0
  obtain ⟨q1,q2,q3⟩:=h.keep b (hg.cls b _ h2).2 fun j ht=>by rw [h2] at ht; exact hL j ht
  exact .inr ⟨b,o,c,cur,T,h1,hN,by rw [q3]; exact h2,by rw [q1]; exact h3,h4,h5,fun j hj hj'=>by rw [q2]; exact h6 j hj hj'⟩
 ·obtain ⟨b,mb,sp,h1,hN,h2,h3,h4,h5⟩:=ho.2 id s l stp e
  obtain ⟨q1,q2,q3⟩:=h.keep b (hg.cls b _ h2).2 fun j ht=>by rw [h2] at ht; exact hL j ht
  exact ⟨b,mb,sp,h1,hN,by rw [q3]; exact h2,by rw [q1]; exact h3,h4,h5.mono fun i b e=>h.bx _ _ e⟩
theorem tch_lbox {d s k j:Nat}:¬ Tch d ks j (some (.arr (.lbox d s k))):=fun h=>by
 rcases pv h with ⟨_,_,_,e⟩ | ⟨_,_,_,_,e⟩ | ⟨_,_,_,e⟩
 ·cases e
 ·cases e
 ·exact e _ rfl (Nat.lt_succ_self d)
theorem tch_box {c:Cls} {j:Nat} (hc:(∃ id,c = .box id)∨∃ id k,c = .arr (.box id k)) (h:Tch d ks j (some c)):∃ v st,ks[j]? = some (PK.mk v st):=by
 rcases pv h with ⟨_,_,_,e⟩ | ⟨_,_,_,_,e⟩ | ⟨v,st,hj,_⟩
 ·rcases hc with ⟨_,rfl⟩ | ⟨_,_,rfl⟩ <;> cases e
 ·rcases hc with ⟨_,rfl⟩ | ⟨_,_,rfl⟩ <;> cases e
 ·exact ⟨v,st,hj⟩
theorem RS.leD {d':Nat} {a:AV} {u:Value} (h:LeD d N ks q w q' w') (hd:d'≤d) (hr:RS q.1 d' a u):RS q'.1 d' a u:=by
 cases a with
 | lptr s o=>obtain ⟨b,h1,h2⟩:=hr; exact ⟨b,by rw [h.lb d' hd]; exact h1,h2⟩
 | _=>exact RS.of (R.mono h.ghle (v:=_) hr)
theorem gn {s j:Nat} (h:Tch d ks j (some (.loc d s))):∃ cs,ks[j]? = some (.store s cs)∨ks[j]? = some (.nst s cs):=by
 rcases pv h with ⟨s',cs,hj,e⟩ | ⟨_,_,_,_,e⟩ | ⟨_,_,_,e⟩
 ·cases e; exact ⟨cs,hj⟩
 ·cases e
 ·exact (e _ rfl (Nat.lt_succ_self d)).elim
theorem pw {t k j:Nat} (h:Tch d ks j (some (.arr (.slot d t k)))):∃ v,ks[j]? = some (.app t v):=by
 rcases pv h with ⟨_,_,_,e⟩ | ⟨t',v,_,hj,e⟩ | ⟨_,_,_,e⟩
 ·cases e
 ·cases e; exact ⟨v,hj⟩
 ·exact (e _ rfl (Nat.lt_succ_self d)).elim
theorem LocE.leDw {s:Nat} {cs:List AV} (h:LeD d N ks q w q' w') (hg:Good q.1 w) (hs:∀ j,Tch d ks j (some (.loc d s))→q.2 j = q'.2 j) (he:LocE q.1 d w N s cs):LocE q'.1 d w' N s cs:=by
 obtain ⟨b,us,T,a1,hN,a2,a3,a4,a5⟩:=he
 obtain ⟨q1,q2,q3⟩:=h.keep b (hg.cls b _ a2).2 fun j ht=>by rw [a2] at ht; exact hs j ht
 exact ⟨b,us,T,by rw [h.lb d (Nat.le_refl d)]; exact a1,hN,by rw [q3]; exact a2,by rw [q1]; exact a3,a4,fun i c x hc hx=>⟨(a5 i c x hc hx).1.mono h.ghle,(a5 i c x hc hx).2.leD h hg fun j ht=>absurd ht tch_lbox⟩⟩
theorem LocE.leD {s:Nat} {cs:List AV} (h:LeD d N ks q w q' w') (hg:Good q.1 w) (hs:∀ j,¬ Tch d ks j (some (.loc d s))) (he:LocE q.1 d w N s cs):LocE q'.1 d w' N s cs :=
 he.leDw h hg fun j ht=>absurd ht (hs j)
theorem BoxR.leD {st:St} (h:LeD d N ks q w q' w') (hm:NoMk ks q q') (hg:Good q.1 w) (hr:BoxR q.1 w st):BoxR q'.1 w' st:=by
 obtain ⟨h1,h2,h3⟩:=hr
 have hbx:=h.bxe hm
 have key:∀ c:Cls,((∃ id,c = .box id)∨∃ id k,c = .arr (.box id k))→∀ j,Tch d ks j (some c)→q.2 j = q'.2 j:=fun c hc j ht=>by
  obtain ⟨v,st,hj⟩:=tch_box hc ht
  exact hm j v st hj
 refine ⟨fun id hid=>by rw [hbx]; exact h1 id hid,fun id cs hc=>?_,fun id bx he hob=>?_⟩
 ·obtain ⟨b,us,T,a1,a2,a3,a4,a5,a6⟩:=h2 id cs hc
  obtain ⟨q1,q2,q3⟩:=h.keep b (hg.cls b _ a2).2 fun j ht=>by rw [a2] at ht; exact key _ (.inl ⟨_,rfl⟩) j ht
  exact ⟨b,us,T,by rw [hbx]; exact a1,by rw [q3]; exact a2,by rw [q1]; exact a3,a4,fun i c x hc hx=>⟨(a5 i c x hc hx).1.mono h.ghle,(a5 i c x hc hx).2.leD h hg fun j ht=>key _ (.inr ⟨_,_,rfl⟩) j ht⟩,a6⟩
 ·obtain ⟨b,us,a1,a2,a3,a4⟩:=h3 id bx he hob
  obtain ⟨q1,q2,q3⟩:=h.keep b (hg.cls b _ a2).2 fun j ht=>by rw [a2] at ht; exact key _ (.inl ⟨_,rfl⟩) j ht
  exact ⟨b,us,by rw [hbx]; exact a1,by rw [q3]; exact a2,by rw [q1]; exact a3,a4.mono h.ghle⟩
def BoxS (st:St) (ks:List PK) (q:GF) (w:World):Prop :=
 ((∀ j v s,ks[j]? = some (PK.mk v s)→q.2 j = false)→BoxR q.1 w st)∧∀ j v s,ks[j]? = some (PK.mk v s)→q.2 j = true→BoxR q.1 w s
theorem BoxS.leD {st:St} (h:LeD d N ks q w q' w') (hm:NoMk ks q q') (hg:Good q.1 w) (hr:BoxS st ks q w):BoxS st ks q' w' :=
 ⟨fun hf=>(hr.1 fun j v s hj=>by rw [hm j v s hj]; exact hf j v s hj).leD h hm hg,fun j v s hj hf=>(hr.2 j v s hj (by rw [hm j v s hj]; exact hf)).leD h hm hg⟩
def FK (d N:Nat) (ks:List PK) (dst:Option Tmp) (i:Nat) (k:PK) (u:Value) (q:GF) (w:World):Prop :=
 match k with
 | .val v | .app _ v=>RS q.1 d v u∧∀ s,dst = some s→(∀ j v',ks[j]? = some (PK.app s v')→q.2 j = false)→OwnV q.1 w N (Loc.slot d s) v u
 | .skip=>u = undef
 | .new s cs=>∃ b,u = .pointer (some ⟨b,0,none⟩)∧N≤b∧q.1.cls b = some (.loc d s)∧((∀ (j:Nat) (cs':List AV),ks[j]? = some (PK.nst s cs')→q.2 j = false)→∃ us T,w.heap[b]? = some (.cells us T (0,0))∧RL q.1 cs us.toList)∧q.2 i = true∧q.1.lb (d + 1) s = some b
 | .nst s cs=>q.2 i = true∧∃ b us T,q.1.lb (d + 1) s = some b∧N≤b∧q.1.cls b = some (.loc d s)∧w.heap[b]? = some (.cells us T (0,0))∧RL q.1 cs us.toList∧∃ (k:Nat) (cs0:List AV),ks[k]? = some (PK.new s cs0)∧q.2 k = true
 | .hole | .chole _ _=>True
 | .mk v _=>q.2 i = true∧RS q.1 d v u∧∀ s,dst = some s→(∀ j v',ks[j]? = some (PK.app s v')→q.2 j = false)→OwnV q.1 w N (Loc.slot d s) v u
 | .store s cs=>q.2 i = true∧∃ b us T,q.1.lb d s = some b∧N≤b∧q.1.cls b = some (.loc d s)∧w.heap[b]? = some (.cells us T (0,0))∧RL q.1 cs us.toList
structure KsOk (ks:List PK):Prop where
 store:∀ (i j s:Nat) (cs cs':List AV),ks[i]? = some (PK.store s cs)→ks[j]? = some (PK.store s cs')→i = j
 app:∀ (i j t:Nat) (v v':AV),ks[i]? = some (PK.app t v)→ks[j]? = some (PK.app t v')→i = j
 new:∀ (i j s:Nat) (cs cs':List AV),ks[i]? = some (PK.new s cs)→ks[j]? = some (PK.store s cs')→False
 newu:∀ (i j s:Nat) (cs cs':List AV),ks[i]? = some (PK.new s cs)→ks[j]? = some (PK.new s cs')→i = j
 nst:∀ (i j s:Nat) (cs cs':List AV),ks[i]? = some (PK.nst s cs)→ks[j]? = some (PK.nst s cs')→i = j
 nstn:∀ (i s:Nat) (cs:List AV),ks[i]? = some (PK.nst s cs)→∃ k cs0,k < i∧ks[k]? = some (PK.new s cs0)∧cs0.length = cs.length
theorem FK.stable {dst:Option Tmp} {i:Nat} {k:PK} {u:Value} (hk:ks[i]? = some k) (hks:KsOk ks) (h:LeD d N ks q w q' w') (hg:Good q.1 w) (hF:FK d N ks dst i k u q w):FK d N ks dst i k u q' w':=by
 have hval:∀ v,(RS q.1 d v u∧∀ s,dst = some s→(∀ j v',ks[j]? = some (PK.app s v')→q.2 j = false)→OwnV q.1 w N (Loc.slot d s) v u) →
   RS q'.1 d v u∧∀ s,dst = some s→(∀ j v',ks[j]? = some (PK.app s v')→q'.2 j = false)→OwnV q'.1 w' N (Loc.slot d s) v u:=by
  rintro v ⟨h1,h2⟩
  refine ⟨h1.leD h (Nat.le_refl d),fun s hs hno=>?_⟩
  have hno':∀ j v',ks[j]? = some (PK.app s v')→q.2 j = false:=fun j v' hj=>by
   cases e:q.2 j with
   | false=>rfl
   | true=>have:=hno j v' hj; rw [h.fl j e] at this; cases this
  intro i' c x hc hx
  refine (h2 s hs hno' i' c x hc hx).leD h hg fun j ht=>?_
  obtain ⟨v',hj⟩:=pw ht
  rw [hno' j v' hj,hno j v' hj]
 cases k with
 | val v=>exact hval v hF
 | app t v=>exact hval v hF
 | mk v s=>exact ⟨h.fl _ hF.1,hval v hF.2⟩
 | skip=>exact hF
 | hole=>trivial
 | chole f vs=>trivial
 | new s cs =>
   obtain ⟨b,h1,hN,h2,h3,h4⟩:=hF
   have hcls:=h.cll b s (hg.cls b _ h2).2 h2
   refine ⟨b,h1,hN,hcls,fun hno=>?_,?_⟩
   ·have hno':∀ j cs',ks[j]? = some (PK.nst s cs')→q.2 j = false:=fun j cs' hj=>by
     cases e:q.2 j with
     | false=>rfl
     | true=>have:=hno j cs' hj; rw [h.fl j e] at this; cases this
    obtain ⟨us,T,g1,g2⟩:=h3 hno'
    obtain ⟨q1,q2,q3⟩:=h.keep b (hg.cls b _ h2).2 fun j ht=>by
     rw [h2] at ht
     obtain ⟨cs',hj | hj⟩:=gn ht
     ·exact (hks.new i j s cs cs' hk hj).elim
     ·rw [hno' j cs' hj,hno j cs' hj]
    exact ⟨us,T,by rw [q1]; exact g1,g2.1,fun i x u hx hu=>(g2.2 i x u hx hu).mono h.ghle⟩
   ·obtain ⟨f1,f2⟩:=h4
    refine ⟨h.fl _ f1,?_⟩
    rw [h.lbn i s cs hk f1]
    exact f2
 | nst s cs =>
   obtain ⟨hfl,b,us,T,h1,hN,h2,h3,h4,k,cs0,h5,h6⟩:=hF
   obtain ⟨q1,q2,q3⟩:=h.keep b (hg.cls b _ h2).2 fun j ht=>by
    rw [h2] at ht
    obtain ⟨cs',hj | hj⟩:=gn ht
    ·exact (hks.new k j s cs0 cs' h5 hj).elim
    ·have:=hks.nst i j s cs cs' hk hj
     subst this
     rw [hfl,h.fl _ hfl]
   exact ⟨h.fl _ hfl,b,us,T,by rw [h.lbn k s cs0 h5 h6]; exact h1,hN,by rw [q3]; exact h2,by rw [q1]; exact h3,⟨h4.1,fun i x u hx hu=>(h4.2 i x u hx hu).mono h.ghle⟩,k,cs0,h5,h.fl _ h6⟩
 | store s cs =>
   obtain ⟨hfl,b,us,T,h1,hN,h2,h3,h4⟩:=hF
   obtain ⟨q1,q2,q3⟩:=h.keep b (hg.cls b _ h2).2 fun j ht=>by
    rw [h2] at ht
    obtain ⟨cs',hj | hj⟩:=gn ht
    ·have:=hks.store i j s cs cs' hk hj
     subst this
     rw [hfl,h.fl _ hfl]
    ·obtain ⟨k,cs0,_,hk0,_⟩:=hks.nstn j s cs' hj
     exact (hks.new k i s cs0 cs hk0 hk).elim
   exact ⟨h.fl _ hfl,b,us,T,by rw [h.lb d (Nat.le_refl d)]; exact h1,hN,by rw [q3]; exact h2,by rw [q1]; exact h3,h4.1,fun i x u hx hu=>(h4.2 i x u hx hu).mono h.ghle⟩
end
end Go.Fx
