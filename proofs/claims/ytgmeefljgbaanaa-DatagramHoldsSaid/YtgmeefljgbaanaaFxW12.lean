/- What the functions that the statement reaches compute: part 12. -/
import Derived.Test.YtgmeefljgbaanaaFxW11
namespace Go.Fx.YtgmeefljgbaanaaFx
open Go Go.Fx
attribute [local irreducible] aC runI aF a9

set_option maxRecDepth 100000
set_option maxHeartbeats 4000000

/-! What only reads. -/
def atA (o:Option SL):AV:=match o with
  | none=>.agg [.lit (.string ⟨#[]⟩),.lit (.int .i64 0),.lit (.int .i64 0),.lit (.int .i64 0),.lit (.int .i64 0),.lit (.int .u64 0),.lit (.slice none 0 0),.lit (.int .i64 0),.lit (.int .i64 0),.lit (.int .i64 0),.lit (.pointer none)]
  | some x=>.agg [.lit (.string x.S.nm),.lit (.int .i64 x.S.port),.lit (.int .i64 (x.S.pks:Nat)),.lit (.int .i64 (x.S.byt:Nat)),.lit (.int .i64 x.S.pol),.lit (.int .u64 (x.S.life:Nat)),x.qv,.lit (.int .i64 (used x.S.q:Nat)),.lit (.int .i64 (x.S.dr:Nat)),.lit (.int .i64 (x.S.old:Nat)),.ptr x.w 0]
theorem qzeroN_pure (st:St):az Go.Proofs.Try.prog n_f58 [.lit (.pointer none)] st (.lit (.bool true)):=by
  refine aB hmix k_f58 rfl rfl fun Q hQ=>?_
  unfold aFun c_f58
  simp (config:=KF) (disch:=omega) only [bZ,retI,AI.dst,br,aJ,↓reduceIte,Nat.reduceEqDiff,reduceCtorEq]
  exact hQ _
theorem qlenN_pure (st:St):az Go.Proofs.Try.prog n_f40 [.lit (.pointer none)] st (.lit (.int .i64 0)):=by
  refine aB hmix k_f40 rfl rfl fun Q hQ=>?_
  unfold aFun c_f40
  simp (config:=KF) (disch:=omega) only [bZ,id,↓reduceIte,reduceCtorEq]
  refine am rfl e_f58 (qzeroN_pure st) rfl ?_
  simp (config:=KF) (disch:=omega) only [bZ,retI,↓reduceIte,Nat.reduceEqDiff,reduceCtorEq]
  exact hQ _
section
variable {st:St} {n sid wid now:Nat} {M:List (Int×SL)} {Wm:List (Int×WE)} {W:WL} {socks:List Sk} {k:Nat}
theorem kr (hh:NetIs st n sid wid now M Wm) (i:Int):az Go.Proofs.Try.prog n_f39 [.ptr n 0,.lit (.int .i64 i)] st (atA (ai i M)):=by
  have hg:=hh.get
  have hlk:=dB hh i
  refine aB hmix k_f39 rfl rfl fun Q hQ=>?_
  unfold aFun c_f39
  simp (config:=KF) (disch:=omega) only [bZ,bU,id,↓reduceIte,Nat.reduceEqDiff,reduceCtorEq]
  refine am rfl e_f26 (dq hh) rfl ?_
  cases hx:ai i M with
  | none =>
    rw [hx] at hlk hQ
    simp (config:=KF) (disch:=omega) only [bZ,retI,AI.dst,d5,aV,aj,bstV,al,br,aJ,addA,aa,aP,bk,↓reduceIte,Nat.reduceEqDiff,Nat.reduceAdd,Nat.reduceLeDiff,reduceCtorEq,hg,hlk]
    exact hQ _
  | some x =>
    rw [hx] at hlk hQ
    have hgx:=(hh.sub _ x hx).get
    obtain ⟨v1,v2,v3,v4,v5,v6,v7,v8⟩:=(hh.sub _ x hx).qb.facts
    simp (config:=KF) (disch:=omega) only [bZ,retI,AI.dst,aV,aj,al,br,aJ,addA,aa,own1_ptr,gv,bk,↓reduceIte,Nat.reduceEqDiff,Nat.reduceAdd,Nat.reduceLeDiff,reduceCtorEq,hg,hlk,hgx,v2,v4]
    exact hQ _
def lenO (o:Option Sk):Int:=match o with | none=>0 | some S=>(S.q.length:Nat)
def drO (o:Option Sk):Int:=match o with | none=>0 | some S=>(S.dr:Nat)
def oldO (o:Option Sk):Int:=match o with | none=>0 | some S=>(S.old:Nat)
def waitN (i:Int) (ws:List Wt):Nat:=(ws.filter fun w=>decide ((w.sock:Int) = i)).length
theorem pq (hh:NetIs st n sid wid now M Wm) (hs:SockR M socks k now) (i:Int):az Go.Proofs.Try.prog n_f15 [.ptr n 0,.lit (.int .i64 i)] st (.lit (.int .i64 (lenO (atS i socks)))):=by
  refine aB hmix k_f15 rfl rfl fun Q hQ=>?_
  unfold aFun c_f15
  simp (config:=KF) (disch:=omega) only [bZ,id,↓reduceIte,Nat.reduceEqDiff,reduceCtorEq]
  refine am rfl e_f39 (kr hh i) rfl ?_
  cases hx:ai i M with
  | none =>
    rw [hs.none hx] at hQ
    simp (config:=KF) (disch:=omega) only [bZ,retI,eE,ew,lenI,↓reduceIte,Nat.reduceEqDiff,reduceCtorEq,atA]
    exact hQ _
  | some x =>
    rw [(hs.some hx).1] at hQ
    obtain ⟨v1,v2,v3,v4,v5,v6,v7,v8⟩:=(hh.sub _ x hx).qb.facts
    simp (config:=KF) (disch:=omega) only [bZ,retI,eE,ew,↓reduceIte,Nat.reduceEqDiff,reduceCtorEq,atA,v1,v8]
    exact hQ _
theorem ndr_pure (hh:NetIs st n sid wid now M Wm) (hs:SockR M socks k now) (i:Int):az Go.Proofs.Try.prog n_f17 [.ptr n 0,.lit (.int .i64 i)] st (.lit (.int .i64 (drO (atS i socks)))):=by
  refine aB hmix k_f17 rfl rfl fun Q hQ=>?_
  unfold aFun c_f17
  simp (config:=KF) (disch:=omega) only [bZ,id,↓reduceIte,Nat.reduceEqDiff,reduceCtorEq]
  refine am rfl e_f39 (kr hh i) rfl ?_
  cases hx:ai i M with
  | none =>
    rw [hs.none hx] at hQ
    simp (config:=KF) (disch:=omega) only [bZ,retI,eE,ew,↓reduceIte,Nat.reduceEqDiff,reduceCtorEq,atA]
    exact hQ _
  | some x =>
    rw [(hs.some hx).1] at hQ
    obtain ⟨v1,v2,v3,v4,v5,v6,v7,v8⟩:=(hh.sub _ x hx).qb.facts
    simp (config:=KF) (disch:=omega) only [bZ,retI,eE,ew,↓reduceIte,Nat.reduceEqDiff,reduceCtorEq,atA]
    exact hQ _
theorem pr (hh:NetIs st n sid wid now M Wm) (hs:SockR M socks k now) (i:Int):az Go.Proofs.Try.prog n_f18 [.ptr n 0,.lit (.int .i64 i)] st (.lit (.int .i64 (oldO (atS i socks)))):=by
  refine aB hmix k_f18 rfl rfl fun Q hQ=>?_
  unfold aFun c_f18
  simp (config:=KF) (disch:=omega) only [bZ,id,↓reduceIte,Nat.reduceEqDiff,reduceCtorEq]
  refine am rfl e_f39 (kr hh i) rfl ?_
  cases hx:ai i M with
  | none =>
    rw [hs.none hx] at hQ
    simp (config:=KF) (disch:=omega) only [bZ,retI,eE,ew,↓reduceIte,Nat.reduceEqDiff,reduceCtorEq,atA]
    exact hQ _
  | some x =>
    rw [(hs.some hx).1] at hQ
    obtain ⟨v1,v2,v3,v4,v5,v6,v7,v8⟩:=(hh.sub _ x hx).qb.facts
    simp (config:=KF) (disch:=omega) only [bZ,retI,eE,ew,↓reduceIte,Nat.reduceEqDiff,reduceCtorEq,atA]
    exact hQ _
theorem nF (i:Int):∀ W:WL,waitN i (W.map cJ) = (qOf i W).length
  | []=>rfl
  | e :: r => by
    have ih:=nF i r
    unfold waitN at ih ⊢
    rw [List.map_cons,List.filter_cons,cK,List.length_append,← ih]
    have:(cJ e).sock = e.2.sock:=rfl
    rw [this]
    split
    · rename_i h; rw [if_pos (of_decide_eq_true h)]; simp; omega
    · rename_i h; rw [if_neg (fun q=>h (decide_eq_true q))]; simp
theorem nwait_pure (hh:NetIs st n sid wid now M Wm) (hw:WaitR M Wm W k) (i:Int):az Go.Proofs.Try.prog n_f16 [.ptr n 0,.lit (.int .i64 i)] st (.lit (.int .i64 (waitN i (W.map cJ):Nat))):=by
  refine aB hmix k_f16 rfl rfl fun Q hQ=>?_
  unfold aFun c_f16
  simp (config:=KF) (disch:=omega) only [bZ,id,↓reduceIte,Nat.reduceEqDiff,reduceCtorEq]
  refine am rfl e_f39 (kr hh i) rfl ?_
  cases hx:ai i M with
  | none =>
    have h0:waitN i (W.map cJ) = 0:=by
      rw [nF,qOf_nil fun e he q=>?_]
      · rfl
      · obtain ⟨z,hz⟩:=hw.has e he
        rw [q,hx] at hz; cases hz
    rw [h0] at hQ
    simp (config:=KF) (disch:=omega) only [bZ,eE,ew,id,↓reduceIte,Nat.reduceEqDiff,reduceCtorEq,atA]
    refine am rfl e_f40 (qlenN_pure st) rfl ?_
    simp (config:=KF) (disch:=omega) only [bZ,retI,↓reduceIte,Nat.reduceEqDiff,reduceCtorEq]
    exact hQ _
  | some x =>
    have hxi:=hh.sub _ x hx
    have hL:=(hw.que _ x hx).1
    obtain ⟨v1,v2,v3,v4,v5,v6,v7,v8⟩:=hxi.qb.facts
    rw [nF,← hL] at hQ
    simp (config:=KF) (disch:=omega) only [bZ,eE,ew,id,↓reduceIte,Nat.reduceEqDiff,reduceCtorEq,atA]
    refine am rfl e_f40 (qlen_pure hxi.wq) rfl ?_
    simp (config:=KF) (disch:=omega) only [bZ,retI,↓reduceIte,Nat.reduceEqDiff,reduceCtorEq]
    exact hQ _
end

/-! What a call leaves behind. -/
def RcV (P:Nat→Prop) (st:St) (e:AV) (r:Rc):Prop:=∃ w,e = rcAV r.task r.nm r.port w r.at_ r.cut r.err∧DV w st r.data∧∀ b ∈ ae w,P b
def RcsV (P:Nat→Prop) (st:St):List AV→List Rc→Prop
  | [],[]=>True
  | e::es,r::rs=>RcV P st e r∧RcsV P st es rs
  | _,_=>False
def AllV (P:Nat→Prop) (o:Bool) (v:AV) (st:St) (l:List Rc):Prop:=(v = .lit (.slice none 0 0)∧l = [])∨∃ es,v = .sl o 7 es∧RcsV P st es l
def NP (st st':St) (n sid wid k:Nat) (F:List Nat) (R':NR) (F':List Nat):Prop:=NetR st' n sid wid (k + 1) R' F'∧Kp st st' F∧∀ b ∈ F',(b ∈ F∨st.boxes.length≤b)∧b < st'.boxes.length
theorem NetR.lts {st:St} {n sid wid k:Nat} {R:NR} {F:List Nat} (hh:NetR st n sid wid k R F):∃ F',(∀ b ∈ F',b ∈ F∧b < st.boxes.length)∧NetR st n sid wid k R F':=by
  obtain ⟨M,Wm,W,h1,h2,h3,h4,h5⟩:=hh.ex
  exact ⟨cS n sid wid M,fun b hb=>⟨h5 b hb,h1.lts b hb⟩,⟨⟨M,Wm,W,h1,h2,h3,h4,fun _ hb=>hb⟩,hh.lt⟩⟩
theorem NP.of {st st':St} {n sid wid k:Nat} {F F':List Nat} {R':NR} (h:NetR st' n sid wid (k + 1) R' F') (hk:Kp st st' F) (hf:∀ b ∈ F',b ∈ F∨st.boxes.length≤b):∃ F'',NP st st' n sid wid k F R' F''∧∀ b ∈ F'',b ∈ F':=by
  obtain ⟨F'',h1,h2⟩:=h.lts
  exact ⟨F'',⟨h2,hk,fun b hb=>⟨hf b (h1 b hb).1,(h1 b hb).2⟩⟩,fun b hb=>(h1 b hb).1⟩
theorem mh {i:Int} {S:Sk}:∀ {l:List Sk},atS i l = some S→∀ f:Sk→Sk,f S = S→modS i f l = l
  | [],_,_,_=>rfl
  | T :: r, h, f, hf => by
    unfold atS at h
    unfold modS
    split
    · rename_i e; rw [if_pos e] at h; cases h; rw [hf]
    · rename_i e; rw [if_neg e] at h; rw [mh h f hf]
/-- One socket changes. -/
theorem SockR.set {M:List (Int×SL)} {socks:List Sk} {k k' now:Nat} (h:SockR M socks k now) (hk:k≤k') {i:Int} {x y:SL} (hx:ai i M = Option.some x) {f:Sk→Sk} (hn:∀ S,(f S).num = S.num) (hy:y.S = f x.S)
    (hok:(f x.S).dr + (f x.S).old + (f x.S).q.length≤k'∧(f x.S).pol = x.S.pol∧(f x.S).nm = x.S.nm∧(f x.S).life = x.S.life∧∀ p ∈ (f x.S).q,p.data.length≤2048∧p.at_≤now):SockR (updP i y M) (modS i f socks) k' now:=by
  obtain ⟨q1,q2,q3⟩:=h.some hx
  refine ⟨fun j=>?_,?_,?_,fun S hS=>?_⟩
  · rw [aW,qq hn]
    split
    · rename_i e
      rw [q1]; simp [hy]
    · exact h.at_ j
  · have:=congrArg List.length (iT (i:=i) hn socks)
    rw [List.length_map,List.length_map] at this
    rw [len_same hx,this]; exact h.len
  · rw [fA,iT hn]; exact fA.1 h.srt
  · have hS':atS (S.num:Int) (modS i f socks) = Option.some S:=gC (by rw [fA,iT hn]; exact fA.1 h.srt) hS
    rw [qq hn] at hS'
    split at hS'
    · rename_i e
      rw [q1] at hS'
      simp only [Option.map_some,Option.some.injEq] at hS'
      subst hS'
      obtain ⟨a,b,c,d,e1,f1⟩:=h.ok _ q2
      obtain ⟨o1,o2,o3,o4,o5⟩:=hok
      exact ⟨by rw [hn]; exact a,o1,by rw [o2]; exact c,by rw [o3]; exact d,by rw [o4]; exact e1,o5⟩
    · obtain ⟨q,_⟩:=ko hS'
      obtain ⟨a,b,c⟩:=h.ok S q
      exact ⟨a,by omega,c⟩
theorem lw (p:Pk) (S:Sk):(getS p S).num = S.num∧(getS p S).pol = S.pol∧(getS p S).nm = S.nm∧(getS p S).port = S.port∧(getS p S).life = S.life∧(getS p S).old = S.old∧(getS p S).pks = S.pks∧(getS p S).byt = S.byt:=by
  unfold getS
  split
  · exact ⟨rfl,rfl,rfl,rfl,rfl,rfl,rfl,rfl⟩
  · split
    · exact ⟨rfl,rfl,rfl,rfl,rfl,rfl,rfl,rfl⟩
    · split <;> exact ⟨rfl,rfl,rfl,rfl,rfl,rfl,rfl,rfl⟩
theorem nG {S:Sk} {n:Nat}:∀ (q:List Pk) (k:Nat),∃ pre,q = pre++(cutQ S n q k).1∧(cutQ S n q k).2 = k + pre.length
  | [],k=>⟨[],rfl,rfl⟩
  | p :: r, k => by
    unfold cutQ
    split
    · exact ⟨[],rfl,rfl⟩
    · obtain ⟨pre,h1,h2⟩:=nG r (k + 1)
      exact ⟨p::pre,by rw [List.cons_append,← h1],by rw [h2,List.length_cons]; omega⟩
theorem pt (p:Pk) (S:Sk):(getS p S).dr + (getS p S).q.length = S.dr + S.q.length + 1∧∀ x ∈ (getS p S).q,x ∈ S.q∨x = p:=by
  unfold getS
  split
  · exact ⟨by simp; omega,fun x hx=>.inl hx⟩
  · split
    · exact ⟨by simp; omega,fun x hx=>by simpa using hx⟩
    · split
      · exact ⟨by simp; omega,fun x hx=>.inl hx⟩
      · obtain ⟨pre,h1,h2⟩:=nG (S:=S) (n:=p.data.length) S.q S.dr
        have hl:=congrArg List.length h1
        rw [List.length_append] at hl
        refine ⟨by simp; omega,fun x hx=>?_⟩
        simp only [List.mem_append,List.mem_singleton] at hx
        rcases hx with hx | hx
        · exact .inl (by rw [h1]; exact List.mem_append_right _ hx)
        · exact .inr hx
end Go.Fx.YtgmeefljgbaanaaFx

