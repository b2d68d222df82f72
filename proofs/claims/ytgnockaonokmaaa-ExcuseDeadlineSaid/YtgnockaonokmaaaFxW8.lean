/- What the functions that the statement reaches compute: part 8. -/
import Derived.Test.YtgnockaonokmaaaFxW7
namespace Go.Fx.YtgnockaonokmaaaFx
open Go Go.Fx
attribute [local irreducible] aC runI az bj

set_option maxRecDepth 100000
set_option maxHeartbeats 4000000

def noPrim (_:FuncId) (_:List AV):Option AV:=none
theorem noPrimOk:n8 Go.Proofs.Try.prog noPrim:=fun q vs v h=>by cases h
theorem in_pure (st:St):aI Go.Proofs.Try.prog n_f49 [.lit (.int .i64 5),.sl false 1 [.lit (.int .i64 2),.lit (.int .i64 5),.lit (.int .i64 6),.lit (.int .i64 7),.lit (.int .i64 8),.lit (.int .i64 9),.lit (.int .i64 10)]] st (.lit (.bool true)) :=
 x_pure hmix tabOk noPrimOk 100 12 (by kernel_rfl) rfl rfl st
def pasB (d now:Nat):Bool:=decide (now≠18446744073709551615∧d≤now)
theorem passed_pure (st:St) (d now:Nat):aI Go.Proofs.Try.prog n_f59 [.lit (.int .u64 (d:Nat)),.lit (.int .u64 (now:Nat))] st (.lit (.bool (pasB d now))):=by
 refine aP hmix k_f59 rfl rfl fun Q hQ=>?_
 unfold aFun c_f59
 unfold pasB at hQ
 by_cases c1:now = 18446744073709551615
 ·rw [decide_eq_false (fun q=>q.1 c1)] at hQ
  simp (config:=KF) (disch:=omega) only [bZ,retI,aG,AI.dst,↓reduceIte,Nat.reduceEqDiff,reduceCtorEq,aY]
  exact hQ _
 ·by_cases c2:d≤now
  ·rw [decide_eq_true ⟨c1,c2⟩] at hQ
   have hd:decide ((d:Int)≤(now:Int)) = true:=decide_eq_true (by omega)
   simp (config:=KF) (disch:=omega) only [bZ,retI,AI.dst,n_leq,↓reduceIte,Nat.reduceEqDiff,reduceCtorEq,aM,hd]
   exact hQ _
  ·rw [decide_eq_false (fun q=>c2 q.2)] at hQ
   have hd:decide ((d:Int)≤(now:Int)) = false:=decide_eq_false (by omega)
   simp (config:=KF) (disch:=omega) only [bZ,retI,AI.dst,n_leq,↓reduceIte,Nat.reduceEqDiff,reduceCtorEq,aM,hd]
   exact hQ _
def dlP (P:PS) (f1 f2 dir:Int):Nat:=(lk3 (f1,f2,dir) P.dl).getD 18446744073709551615
section
variable {st:St} {p m1 m2 m3 m4:Nat} {fv bv tr:AV} {P:PS}
theorem late_pure (h:PastIs st p m1 m2 m3 m4 fv bv tr P) {a b:Nat} {now:Nat} (ha:st.get a = some [.ptr p 0]) (hb:st.get b = some [.lit (.int .u64 (now:Nat))]) (f1 f2 dir:Int) :
  aI Go.Proofs.Try.prog n_f58 [.agg [.lit (.int .i64 f1),.lit (.int .i64 f2)],.lit (.int .i64 dir),.ptr a 0,.ptr b 0] st (.lit (.bool (pasB (dlP P f1 f2 dir) now))):=by
 refine aP hmix k_f58 rfl rfl fun Q hQ=>?_
 unfold aFun c_f58
 simp (config:=KF) (disch:=omega) only [bZ,hh_call,aa,id,↓reduceIte,Nat.reduceEqDiff,Nat.reduceAdd,Nat.reduceLeDiff,reduceCtorEq,ha]
 refine call_h rfl e_f24 (gI h f1 f2 dir) rfl ?_
 simp (config:=KF) (disch:=omega) only [bZ,cons_val,aZ,aa,id,↓reduceIte,Nat.reduceEqDiff,hb]
 refine aQ rfl e_f59 (passed_pure st _ now) rfl ?_
 simp (config:=KF) (disch:=omega) only [bZ,retI,↓reduceIte,Nat.reduceEqDiff]
 exact hQ _
theorem mA (h:PastIs st p m1 m2 m3 m4 fv bv tr P) (c:Cl) (h5:c.kind = 5) (now:Nat) :
  aF Go.Proofs.Try.prog n_f44 [.ptr p 0,clA c,.lit (.int .u64 (now:Nat))] st (fun v st'=>v = .lit (.bool (pasB (dlP P c.f1 c.f2 0) now))∧Kp st st' []):=by
 refine a8 hmix k_f44 rfl rfl fun Q hQ=>?_
 unfold aFun c_f44
 unfold clA
 rw [df]
 have ha:=cQ st [.ptr p 0]
 have hb:=cQ (st.push (.cells [.ptr p 0])) [.lit (.int .u64 (now:Nat))]
 obtain ⟨s,hs⟩:∃ s,s = (st.push (.cells [.ptr p 0])).push (.cells [.lit (.int .u64 (now:Nat))]):=⟨_,rfl⟩
 have ha2:s.get st.boxes.length = some [.ptr p 0]:=by rw [hs]; exact (cb (bp (by rw [am]; omega))).trans ha
 rw [← hs,am] at hb
 have hk:Kp st s []:=by rw [hs]; exact ⟨by rw [am,am]; omega,fun b hb _=>by rw [bp (by rw [am]; omega),bp hb]⟩
 have hp:=h.kp hk
 simp (config:=KF) (disch:=omega) only [bZ,o_mkfn,dU,ni,id,b5,aL,cells_ptr,fS,List.nil_append,↓reduceIte,Nat.reduceEqDiff,Nat.reduceAdd,reduceCtorEq,am,f44_1e,ak,al]
 rw [← hs]
 simp (config:=KF) (disch:=omega) only [bZ,addA,aa,b5,↓reduceIte,Nat.reduceEqDiff,Nat.reduceAdd,Nat.reduceLeDiff,f44_5e]
 refine aQ rfl e_f58 (late_pure hp ha2 hb c.f1 c.f2 0) rfl ?_
 simp (config:=KF) (disch:=omega) only [bZ,aD,retI,↓reduceIte,Nat.reduceEqDiff]
 exact hQ _ _ ⟨rfl,hk⟩
def onF (f1 f2:Int) (P:PS):Bool:=match gH f1 f2 P.files with | some x=>x.on | none=>false
theorem gone_pure (h:PastIs st p m1 m2 m3 m4 fv bv tr P) (hl:P.files.length < 99990) (c:Cl) (h5:c.kind = 5) :
  aI Go.Proofs.Try.prog n_f45 [.ptr p 0,clA c] st (.lit (.bool (!onF c.f1 c.f2 P))):=by
 have hfp:=nA h (by omega) c.f1 c.f2
 obtain ⟨fk,fo,hfk,hon⟩:∃ (fk:Int) (fo:Bool),findR (gH c.f1 c.f2 P.files) = [.lit (.int .i64 fk),.lit (.bool fo)]∧onF c.f1 c.f2 P = fo:=by
  unfold onF
  cases gH c.f1 c.f2 P.files with
  | none=>exact ⟨0,false,rfl,rfl⟩
  | some f=>exact ⟨f.kind,f.on,rfl,rfl⟩
 rw [hfk] at hfp
 rw [hon]
 refine aP hmix k_f45 rfl rfl fun Q hQ=>?_
 unfold aFun c_f45
 unfold clA
 rw [df,h5]
 simp (config:=KF) (disch:=omega) only [bZ,addA,aa,id,↓reduceIte,Nat.reduceEqDiff,Nat.reduceAdd,Nat.reduceLeDiff,reduceCtorEq,ak,al]
 refine aQ rfl e_f60 hfp rfl ?_
 cases fo with
 | true =>
   simp (config:=KF) (disch:=omega) only [bZ,retI,aG,AI.dst,o_un,cw,addA,aa,unA,↓reduceIte,Nat.reduceEqDiff,Int.reduceEq,reduceCtorEq,decide_false]
   exact hQ _
 | false =>
   simp (config:=KF) (disch:=omega) only [bZ,and_self,AI.dst,o_un,cw,o_bsl,bslV,List.reduceReplicate,addA,aa,dM,unA,id,mkSl_lit,aL,↓reduceIte,Nat.reduceEqDiff,Nat.reduceAdd,Nat.reduceLT,Int.reduceEq,reduceCtorEq,decide_false]
   refine aQ rfl e_f49 (in_pure st) rfl ?_
   simp (config:=KF) (disch:=omega) only [bZ,retI,↓reduceIte,Nat.reduceEqDiff,reduceCtorEq]
   exact hQ _
end
theorem ixf0_pure {st:St} {bv:AV} (hb:RB enC 12 bv st []) (b:Nat):aI Go.Proofs.Try.prog n_f57 [bv,.fn (.func n_f43) [] [.ptr b 0]] st (.lit (.int .i64 (-1))):=by
 refine aP hmix k_f57 rfl rfl fun Q hQ=>?_
 unfold aFun c_f57
 obtain ⟨v1,v2,v3,v4,v5,v6,v7,v8⟩:=hb.facts
 rw [List.length_nil] at v8
 simp (config:=KF) (disch:=omega) only [bZ,b5,↓reduceIte,Nat.reduceEqDiff,reduceCtorEq,v1,v8]
 rw [f57_7w]
 refine cJ (A:=Unit) (fun _=>0) (fun _=>⟨[(0,bv),(1,.fn (.func n_f43) [] [.ptr b 0]),(7,.lit (.int .i64 ((0:Nat):Int))),(8,.lit (.int .i64 0))],[]⟩) (fun _=>st) (fun _=>True) () trivial (Sf.le_refl _) rfl ?_
 rintro _ _ K hK hKe hKr
 try dsimp only
 simp (config:=KF) (disch:=omega) only [bZ,↓reduceIte,Nat.reduceEqDiff,Int.reduceLT,reduceCtorEq,decide_false]
 refine hKe _ _ _ ?_
 simp (config:=KF) (disch:=omega) only [bZ,retI,↓reduceIte,Int.reduceNeg]
 exact hQ _
theorem cont0_pure {st:St} {bv:AV} (hb:RB enC 12 bv st []) (b:Nat):aI Go.Proofs.Try.prog n_f42 [bv,.fn (.func n_f43) [] [.ptr b 0]] st (.lit (.bool false)):=by
 refine aP hmix k_f42 rfl rfl fun Q hQ=>?_
 unfold aFun c_f42
 obtain ⟨v1,v2,v3,v4,v5,v6,v7,v8⟩:=hb.facts
 simp (config:=KF) (disch:=omega) only [bZ,id,b5,↓reduceIte,Nat.reduceEqDiff,reduceCtorEq,v1]
 refine aQ (vs:=[bv,.fn (.func n_f43) [] [.ptr b 0]]) (by simp [v1]; rfl) e_f57 (ixf0_pure hb b) (by simp [v5]; rfl) ?_
 simp (config:=KF) (disch:=omega) only [bZ,retI,kD,↓reduceIte,Nat.reduceEqDiff,Int.reduceNeg,reduceCtorEq]
 exact hQ _
theorem nE (st:St) (b:Bool) (x:Int):aI Go.Proofs.Try.prog n_f41 [.lit (.bool b),.lit (.int .i64 x)] st (.lit (.int .i64 (if b = true then x else 1))):=by
 refine aP hmix k_f41 rfl rfl fun Q hQ=>?_
 unfold aFun c_f41
 cases b with
 | true=>simp (config:=KF) (disch:=omega) only [bZ,retI,↓reduceIte,Nat.reduceEqDiff,reduceCtorEq]; exact hQ _
 | false=>simp (config:=KF) (disch:=omega) only [bZ,retI,↓reduceIte,Nat.reduceEqDiff,reduceCtorEq]; exact hQ _
def exO (P:PS) (e:Ev):Option Int :=
 if e.kind = 1∧e.err≠0 then none
 else if e.kind≠2∨e.done = false∨e.en.err = 0 then some 0
 else match bF e.task P.calls with
  | none=>none
  | some c=>if c.kind = e.en.kind∧c.kind = 5 then (if e.en.err = 12 then some (if pasB (dlP P c.f1 c.f2 0) e.now = true then 2 else 1) else if e.en.err = 9 then some (if (!onF c.f1 c.f2 P) = true then 3 else 1) else none) else none
def zCl:List AV:=[.lit (.int .i64 0),.lit (.int .i64 0),.lit (.int .i64 0),.lit (.int .i64 0),.lit (.int .i64 0),.lit (.string ⟨#[]⟩),.lit (.int .i64 0),.lit (.slice none 0 0),.lit (.int .i64 0),.lit (.int .i64 0),.lit (.int .i64 0),.lit (.int .u64 0)]
def ofSS (st:St) (j:Nat) (s:St):Prop:=match j with | 0=>s = st | _ + 1=>s = st.push (.cells zCl)
theorem ofSS_sub (st:St) (j:Nat) (s:St) (h:ofSS st j s):St.sub st s:=by
 unfold ofSS at h
 split at h
 ·rw [h]; exact St.sub_refl _
 ·rw [h]; exact St.sub_push _ _
theorem of_calls {st:St} {p m1 m2 m3 m4:Nat} {fv bv tr:AV} {P:PS} (h:PastIs st p m1 m2 m3 m4 fv bv tr P) (hl:P.files.length < 99990) (hb:P.bound = []) (e:Ev) {x:Int} (hx:exO P e = some x) :
  aF Go.Proofs.Try.prog n_f26 [.ptr p 0,.agg (evC e)] st (fun v st'=>v = .lit (.int .i64 x)∧Kp st st' []):=by
 refine a8 hmix k_f26 rfl rfl fun Q hQ=>?_
 unfold aFun c_f26
 rw [fY]
 unfold exO at hx
 split at hx
 ·cases hx
 rename_i n1
 split at hx
 ·rename_i c2
  cases hx
  have h0:=hQ _ _ ⟨rfl,Kp.refl st []⟩
  by_cases k1:e.kind = 1
  ·have k0:e.err = 0:=by
    by_cases q:e.err = 0
    ·exact q
    ·exact absurd ⟨k1,q⟩ n1
   simp (config:=KF) (disch:=omega) only [bZ,retI,aG,AI.dst,addA,aa,id,b5,↓reduceIte,Nat.reduceEqDiff,Nat.reduceAdd,reduceCtorEq,aM,f26_1e,f26_2e,f26_2l,ak,al]
   exact h0
  ·by_cases k2:e.kind = 2
   ·cases hd:e.done with
    | false =>
      simp (config:=KF) (disch:=omega) only [bZ,retI,aG,AI.dst,o_un,addA,aa,unA,id,b5,↓reduceIte,Nat.reduceEqDiff,Nat.reduceAdd,reduceCtorEq,aY,f26_1e,f26_2e,f26_2l,ak,al]
      exact h0
    | true =>
      have k0:e.en.err = 0:=by
       rcases c2 with q | q | q
       ·exact absurd k2 q
       ·rw [hd] at q; cases q
       ·exact q
      simp (config:=KF) (disch:=omega) only [bZ,retI,aG,AI.dst,o_un,addA,aa,unA,id,b5,↓reduceIte,Nat.reduceEqDiff,Nat.reduceAdd,reduceCtorEq,aY,f26_1e,f26_2e,f26_2l,ak,al]
      exact h0
   ·simp (config:=KF) (disch:=omega) only [bZ,retI,aG,AI.dst,addA,aa,id,b5,↓reduceIte,Nat.reduceEqDiff,Nat.reduceAdd,reduceCtorEq,aM,aY,f26_1e,f26_2e,f26_2l,ak,al]
    exact h0
 ·rename_i c2
  obtain ⟨k2,kd,k0⟩:e.kind = 2∧e.done = true∧¬ e.en.err = 0:=by
   refine ⟨?_,?_,fun q=>c2 (.inr (.inr q))⟩
   ·by_cases q:e.kind = 2
    ·exact q
    ·exact absurd (.inl q) c2
   ·cases hd:e.done with
    | true=>rfl
    | false=>exact absurd (.inr (.inl hd)) c2
  have hlk:=fun z=>nz h.cm (z:=z) (ok:=true) (t:=e.task)
  split at hx
  ·cases hx
  rename_i c hc
  split at hx
  case isFalse=>cases hx
  rename_i k5
  obtain ⟨kk,k5⟩:=k5
  simp only [hc,if_true,js] at hlk
  unfold clA at hlk
  rw [df] at hlk
  have hg:=h.get
  have hbb:=h.bb
  rw [hb] at hbb
  obtain ⟨v1,v2,v3,v4,v5,v6,v7,v8⟩:=h.fb.facts
  obtain ⟨w1,w2,w3,w4,w5,w6,w7,w8⟩:=h.bb.facts
  have k1':¬ e.kind = 1:=by omega
  rw [kd]
  simp (config:=KF) (disch:=omega) only [bZ,aG,AI.dst,o_un,addA,aa,unA,id,b5,↓reduceIte,Nat.reduceEqDiff,Nat.reduceAdd,reduceCtorEq,aY,f26_1e,f26_2e,f26_2l,ak,al]
  simp (config:=KF) (disch:=omega) only [bZ,Nat.reduceBEq,↓reduceIte,or_false,f26_18e,f26_18h,f26_18l]
  refine draw_x (ofSS st) rfl (ofSS_sub st) ?_
  simp (config:=KF) (disch:=omega) only [bZ,il,mm_ext,mm_addr,eY,mm_nilck,mm_lookup,g_none_f,g_none_t,g_val,g_newB,aJ,addA,aa,cq,↓reduceIte,Nat.reduceEqDiff,reduceCtorEq,hg,hlk,ak]
  refine new_x st.boxes.length (fun s hs=>⟨by rw [show s = st from hs],by rw [show s = st from hs]; rfl⟩) ?_
  simp (config:=KF) (disch:=omega) only [bZ,g_nil,g_mkv,tailG_nil,AI.dst,o_un,aw,addA,aa,unA,↓reduceIte,Nat.reduceEqDiff,Nat.reduceAdd,reduceCtorEq,ai,f26_19e,ak,al]
  intro s hs
  have hs:s = st.push (.cells zCl):=hs
  have hgz:=cQ st zCl
  rw [← hs] at hgz
  unfold zCl at hgz
  have hls:s.boxes.length = st.boxes.length + 1:=by rw [hs,am]
  simp (config:=KF) (disch:=omega) only [bZ,AI.dst,bN,aJ,addA,aa,↓reduceIte,Nat.reduceEqDiff,Nat.reduceAdd,Nat.reduceLeDiff,reduceCtorEq,cr,hgz]
  obtain ⟨s1,hs1⟩:∃ s1,s1 = s.set st.boxes.length [.lit (.int .i64 c.kind),.lit (.int .i64 c.f1),.lit (.int .i64 c.f2),.lit (.int .i64 c.t1),.lit (.int .i64 c.t2),.lit (.string c.nm),.lit (.int .i64 c.port),c.data.v,.lit (.int .i64 c.most),.lit (.int .i64 c.n),.lit (.int .i64 c.dir),.lit (.int .u64 (c.at_:Nat))]:=⟨_,rfl⟩
  rw [← hs1]
  have hl1:s1.boxes.length = st.boxes.length + 1:=by rw [hs1,eU,hls]
  have hk1:Kp st s1 []:=⟨by omega,fun b hb _=>by rw [hs1,cu (by omega),hs,bp hb]⟩
  have hp1:=h.kp hk1
  have hg1:=hp1.get
  have hgb:s1.get st.boxes.length = some (clC c):=by rw [hs1]; exact cr (by omega)
  rw [df] at hgb
  have hco:=cont0_pure (by have:=hp1.bb; rw [hb] at this; exact this) st.boxes.length
  simp (config:=KF) (disch:=omega) only [bZ,o_mkfn,ni,id,fS,List.nil_append,↓reduceIte,Nat.reduceEqDiff,reduceCtorEq,hg1,w1]
  refine aQ (vs:=[bv,.fn (.func n_f43) [] [.ptr st.boxes.length 0]]) (by simp [w1]; rfl) e_f42 hco (by simp [w5]; rfl) ?_
  split at hx
  ·rename_i k12
   cases hx
   simp (config:=KF) (disch:=omega) only [bZ,addA,aa,id,b5,↓reduceIte,Nat.reduceEqDiff,Nat.reduceAdd,Nat.reduceLeDiff,reduceCtorEq,hgb,ak]
   refine aK (vs:=[.ptr p 0,clA c,.lit (.int .u64 (e.now:Nat))]) (by show [AV.ptr p 0,(clA c).dis,_] = _; rw [js]; rfl) e_f44 (mA hp1 c k5 e.now) (by simp [bG,cI,fT,eG]) fun v s2 hr=>?_
   obtain ⟨rfl,hk2⟩:=hr
   simp (config:=KF) (disch:=omega) only [bZ,↓reduceIte,Nat.reduceEqDiff,reduceCtorEq]
   refine aQ rfl e_f41 (nE s2 _ 2) rfl ?_
   simp (config:=KF) (disch:=omega) only [bZ,aD,retI,↓reduceIte,Nat.reduceEqDiff,reduceCtorEq]
   exact hQ _ _ ⟨rfl,hk1.trans hk2 fun _ q=>by cases q⟩
  split at hx
  ·rename_i k9
   cases hx
   have hgo:=gone_pure hp1 hl c k5
   simp (config:=KF) (disch:=omega) only [bZ,addA,aa,id,b5,↓reduceIte,Nat.reduceEqDiff,Nat.reduceAdd,Nat.reduceLeDiff,reduceCtorEq,hgb,ak]
   refine aQ (vs:=[.ptr p 0,clA c]) (by show [AV.ptr p 0,(clA c).dis] = _; rw [js]) e_f45 hgo (by simp [bG,cI,fT,eG]) ?_
   simp (config:=KF) (disch:=omega) only [bZ,↓reduceIte,Nat.reduceEqDiff,reduceCtorEq]
   refine aQ rfl e_f41 (nE s1 _ 3) rfl ?_
   simp (config:=KF) (disch:=omega) only [bZ,aD,retI,↓reduceIte,Nat.reduceEqDiff,reduceCtorEq]
   exact hQ _ _ ⟨rfl,hk1⟩
  ·cases hx

theorem xof_calls (st:St) {l:List Ev} (at_:Int) (hl:l.length≤10000) {x:Int} (hx:∀ k:Nat,at_ = (k:Int)→(hk:k < l.length)→exO (pAll (l.take k)) l[k] = some x∧(pAll (l.take k)).bound = []) :
  aF Go.Proofs.Try.prog n_f13 [.sl false 30 (l.map evA),.lit (.int .i64 at_)] st (fun v _=>v = if 5000 < l.length then .tup [.lit (.int .i64 0),.lit (.int .i64 7)] else if at_ < 0∨(l.length:Int) - 1 < at_ then .tup [.lit (.int .i64 0),.lit (.int .i64 3)] else .tup [.lit (.int .i64 x),.lit (.int .i64 0)]):=by
 have hll:(l.map evA).length = l.length:=List.length_map ..
 refine a8 hmix k_f13 rfl rfl fun Q hQ=>?_
 unfold aFun c_f13
 have hr:=e8 st l at_ ((l.length:Int) - 1) (by omega)
 have hsub:∀ b:Bool,True:=fun _=>trivial
 by_cases c0:l.length = 0
 ·have hl0:l = []:=List.eq_nil_of_length_eq_zero c0
  subst hl0
  have c2:at_ < 0∨(([]:List Ev).length:Int) - 1 < at_:=by simp only [List.length_nil]; omega
  rw [if_neg (by simp),if_pos c2] at hQ hr
  simp (config:=KF) (disch:=omega) only [bZ,lenI,gC,id,↓reduceIte,Nat.reduceEqDiff,Int.reduceSub,Int.reduceNeg,reduceCtorEq]
  refine aQ rfl e_f19 hr rfl ?_
  simp (config:=KF) (disch:=omega) only [bZ,retI,resI,↓reduceIte,Nat.reduceEqDiff,Int.reduceEq,Int.reduceNeg,reduceCtorEq,not_false_eq_true]
  exact hQ _ _ rfl
 have hm1:((l.length - 1:Nat):Int) = (l.length:Int) - 1:=by omega
 rw [← hm1] at hr hQ
 simp (config:=KF) (disch:=omega) only [bZ,lenI,gC,id,↓reduceIte,Nat.reduceEqDiff,reduceCtorEq,up_subL,hll]
 refine aQ rfl e_f19 hr rfl ?_
 by_cases c1:5000 < l.length
 ·rw [if_pos c1] at hQ ⊢
  simp (config:=KF) (disch:=omega) only [bZ,retI,resI,↓reduceIte,Nat.reduceEqDiff,Int.reduceEq,reduceCtorEq,not_false_eq_true]
  exact hQ _ _ rfl
 by_cases c2:at_ < 0∨((l.length - 1:Nat):Int) < at_
 ·rw [if_neg c1,if_pos c2] at hQ ⊢
  simp (config:=KF) (disch:=omega) only [bZ,retI,resI,↓reduceIte,Nat.reduceEqDiff,Int.reduceEq,reduceCtorEq,not_false_eq_true]
  exact hQ _ _ rfl
 rw [if_neg c1,if_neg c2] at hQ ⊢
 obtain ⟨k,rfl⟩:∃ k:Nat,at_ = (k:Int):=⟨at_.toNat,by omega⟩
 have hk:k < l.length:=by omega
 obtain ⟨hx1,hx2⟩:=hx k rfl hk
 have hgd:=eH hk
 simp (config:=KF) (disch:=omega) only [bZ,↓reduceIte,Nat.reduceEqDiff,reduceCtorEq,not_true_eq_false,decide_false]
 simp (config:=KF) (disch:=omega) only [bZ,f13_12e,f13_12h,f13_12p,f13_12l]
 refine draw_m ⟨[]⟩ (St.sub_nil _) ?_
 simp (config:=KF) (disch:=omega) only [bZ,nu,j4,nv,il,atM_eq,ft,dropP,dropQ,lH,id,List.append_nil,List.nil_append,List.cons_append,↓reduceIte,Nat.reduceEqDiff,reduceCtorEq]
 refine call_m rfl e_f20 (fX st (show k≤l.length by omega) hl) rfl ?_
 have hed:=ev_dis l[k]
 unfold evA at hed
 rw [fY] at hgd hed
 simp (config:=KF) (disch:=omega) only [bZ,ksB,au,aT,br,aE,nstB,bt,il,mm_ixS,eY,hm_nil,oc,hm_val,l9,ixSV,aa,List.nil_append,List.cons_append,↓reduceIte,Nat.reduceEqDiff,Nat.reduceAdd,Nat.reduceLeDiff,reduceCtorEq,hgd,hll,ak]
 rintro v s1 ⟨p,tr,rfl,⟨m1,m2,m3,m4,fv,bv,h1,_⟩,_⟩
 refine ⟨St.sub_nil _,?_⟩
 have hn:=PSn.all (l.take k) 0 P0 PSn.zero
 rw [Nat.zero_add,List.length_take,Nat.min_eq_left (by omega)] at hn
 have hfl:=hn.fl
 change (pAll (l.take k)).files.length≤2 * k at hfl
 have hof:=of_calls h1 (by omega) hx2 l[k] hx1
 rw [fY] at hof
 simp (config:=KF) (disch:=omega) only [bZ,ksB,au,aT,br,aE,bH,bq,nstB,bt,nu,j4,nv,il,mm_ixS,eY,l8,j5,og,ma,od,and_self,ixSV,aa,id,List.nil_append,List.cons_append,↓reduceIte,Nat.reduceEqDiff,Nat.reduceAdd,Nat.reduceLeDiff,reduceCtorEq,hgd,hll,ak]
 refine aK (vs:=[.ptr p 0,_]) (by show [AV.ptr p 0,AV.dis _] = _; rw [hed]) e_f26 hof (by simp [bG,cI,fT,eG]) fun v s2 hr=>?_
 obtain ⟨rfl,_⟩:=hr
 simp (config:=KF) (disch:=omega) only [bZ,retI,resI,↓reduceIte,Nat.reduceEqDiff,reduceCtorEq]
 exact hQ _ _ rfl
theorem xall_calls (st:St) {l:List Ev} (h5:l.length≤5000) {xs:List Int} (hxl:xs.length = l.length) (hx:∀ (k:Nat) (hk:k < l.length),exO (pAll (l.take k)) l[k] = some (xs[k]'(by omega))∧(pAll (l.take k)).bound = []) :
  aF Go.Proofs.Try.prog n_f15 [.sl false 30 (l.map evA)] st (fun v st'=>∃ ov,v = .tup [ov,.lit (.int .i64 0)]∧MB ov st' (ints xs)):=by
 have hll:(l.map evA).length = l.length:=List.length_map ..
 refine a8 hmix k_f15 rfl rfl fun Q hQ=>?_
 unfold aFun c_f15
 have hr:=e8 st l 0 0 (by omega)
 rw [if_neg (by omega),if_neg (by omega)] at hr
 simp (config:=KF) (disch:=omega) only [bZ,id,↓reduceIte,Nat.reduceEqDiff,reduceCtorEq]
 refine aQ rfl e_f19 hr rfl ?_
 simp (config:=KF) (disch:=omega) only [bZ,id,↓reduceIte,Nat.reduceEqDiff,reduceCtorEq,not_true_eq_false,decide_false]
 refine aK rfl e_f37 (kF st) rfl fun v s1 hr=>?_
 obtain ⟨rfl,b1,b2⟩:=hr
 generalize st.boxes.length + 4 = p at b1 ⊢
 simp (config:=KF) (disch:=omega) only [bZ,gU,o_x,ar,lenI,cP,Int.toNat_zero,↓reduceIte,Nat.reduceEqDiff,Int.reduceLE,reduceCtorEq,hll,ly]
 rw [f15_19w]
 obtain ⟨m1,m2,m3,m4,fv,bv,i1,i2⟩:=b1
 have hlt:=i1.lts
 obtain ⟨s2,hs2⟩:∃ s2,s2 = s1.push (.cells (List.flatMap AV.cells (List.replicate l.length (AV.lit (Value.int .i64 0))))):=⟨_,rfl⟩
 have hg2:=cQ s1 (List.flatMap AV.cells (List.replicate l.length (AV.lit (Value.int .i64 0))))
 rw [← hs2] at hg2 ⊢
 have hk2:Kp s1 s2 []:=by rw [hs2]; exact ⟨by rw [am]; omega,fun b hb _=>bp hb⟩
 refine cJ (A:=Nat×AV×AV×St) (fun a=>l.length - a.1) (fun a=>⟨[(0,.sl false 30 (l.map evA)),(5,.ptr p 0),(6,a.2.2.1),(18,.sl false 30 (l.map evA)),(19,.lit (.int .i64 (l.length:Nat))),(20,.lit (.int .i64 (a.1:Nat)))],[]⟩) (fun a=>a.2.2.2)
  (fun a=>a.1≤l.length∧MB a.2.2.1 a.2.2.2 (ints (xs.take a.1))∧∃ m1 m2 m3 m4 fv bv,PastIs a.2.2.2 p m1 m2 m3 m4 fv bv a.2.1 (pAll (l.take a.1))∧∀ b ∈ pIds p m1 m2 m3 m4 fv bv,b ∉ ae a.2.2.1) (0,.lit (.slice none 0 0),.bs s1.boxes.length 1 0 0 l.length,s2)
  ⟨Nat.zero_le _,.inr ⟨_,l.length,List.flatMap AV.cells (List.replicate l.length (AV.lit (Value.int .i64 0))),rfl,hg2,Nat.zero_le _,?_⟩,m1,m2,m3,m4,fv,bv,i1.kp hk2,fun b hb q=>?_⟩ (Sf.le_refl _) rfl ?_
 ·show l.length≤_
  simp [List.length_flatMap,aL]
 ·simp only [ae,List.mem_singleton] at q
  have:=hlt b hb
  omega
 rintro ⟨k,tr,ov,s⟩ ⟨h1,h2,m1,m2,m3,m4,fv,bv,h3,h4⟩ K hK hKe hKr
 simp only at h1 h2 h3 h4
 dsimp only
 obtain ⟨o1,o2,o3,o4,o5,o6,o7,o8⟩:=h2.facts
 by_cases hk:k < l.length
 ·obtain ⟨hx1,hx2⟩:=hx k hk
  have hgd:=eH hk
  have hed:=ev_dis l[k]
  unfold evA at hed
  have hn:=PSn.all (l.take k) 0 P0 PSn.zero
  rw [Nat.zero_add,List.length_take,Nat.min_eq_left (by omega)] at hn
  change PSn k (pAll (l.take k)) at hn
  have hof:=of_calls h3 (by have:=hn.fl; omega) hx2 l[k] hx1
  rw [fY] at hgd hed hof
  simp (config:=KF) (disch:=omega) only [bZ,b9,bw,ixSV,aw,aa,id,d9,↓reduceIte,Nat.reduceEqDiff,Nat.reduceAdd,Nat.reduceLeDiff,reduceCtorEq,ai,hgd,hll,ak,al,o1,o7]
  refine aK (vs:=[.ptr p 0,_]) (by show [AV.ptr p 0,AV.dis _] = _; rw [hed]) e_f26 hof (by simp [bG,cI,fT,eG]) fun v s3 hr=>?_
  obtain ⟨rfl,hk3⟩:=hr
  have h2':=h2.at fun b hb=>hk3.2 b (h2.lt b hb) (by simp)
  have h3':=h3.kp hk3
  simp (config:=KF) (disch:=omega) only [bZ,and_self,o_bsl,o_x,bslV,ar,List.reduceReplicate,srcA,dM,mkSl_lit,aL,↓reduceIte,Nat.reduceEqDiff,Nat.reduceLT,reduceCtorEq]
  have hxk:k < xs.length:=by omega
  refine MB.grow h2' (ints_lits _) (new:=[.lit (.int .i64 xs[k])]) (fun y hy=>⟨_,List.mem_singleton.1 hy⟩) (jl (by simp only [mc,List.length_take,List.length_cons,List.length_nil]; omega)) fun ov' s4 g1 g2 g3=>?_
  have hie:ints (xs.take k)++[.lit (.int .i64 xs[k])] = ints (xs.take (k + 1)):=by
   rw [List.take_succ_eq_append_getElem hxk]; simp only [ints,List.map_append,List.map_cons,List.map_nil]
  rw [hie] at g1
  have h4l:=h3'.lts
  have h5:=h3'.at (st':=s4) fun b hb=>g2.2 b (h4l b hb) (h4 b hb)
  obtain ⟨y1,y2,y3,y4,y5,y6,y7,y8⟩:=g1.facts
  simp (config:=KF) (disch:=omega) only [bZ,gU,id,↓reduceIte,Nat.reduceEqDiff,reduceCtorEq,y1]
  have hnew:∀ b ∈ pIds p m1 m2 m3 m4 fv bv,b ∉ ae ov':=fun b hb q=>by
   rcases g3 b q with q | q
   ·exact h4 b hb q
   ·have:=h4l b hb; omega
  refine aK rfl e_f38 (nB (B:=fun b=>b ∉ ae ov') (fun b q r=>by have:=g1.lt b r; omega) ⟨⟨m1,m2,m3,m4,fv,bv,h5,hnew⟩⟩ hn (by omega) hk (by omega)) rfl fun v s5 hr=>?_
  obtain ⟨⟨n1,n2,n3,n4,fv',bv',j1,j2⟩,j3⟩:=hr
  simp (config:=KF) (disch:=omega) only [bZ,↓reduceIte,Nat.reduceEqDiff,reduceCtorEq,aR]
  rw [← j9] at j1
  exact hK (k + 1,_,ov',s5) _ ⟨by simp only; omega,g1.at fun b hb=>j3.2 b (g1.lt b hb) (fun q=>q hb),n1,n2,n3,n4,fv',bv',j1,j2⟩ (by simp only; omega) (Sf.le_refl _)
 ·have hkl:k = l.length:=by omega
  subst hkl
  rw [← hxl,List.take_length] at h2
  simp (config:=KF) (disch:=omega) only [bZ,↓reduceIte,Nat.reduceEqDiff,reduceCtorEq]
  refine hKe _ _ _ ?_
  simp (config:=KF) (disch:=omega) only [bZ,retI,resI,↓reduceIte,Nat.reduceEqDiff,o1,o5]
  exact hQ _ _ ⟨ov,rfl,h2⟩
theorem xindex_pure {st:St} {ov:AV} {l:List Int} (hm:MB ov st (ints l)) (hl:l.length < 100000) :
  aI Go.Proofs.Try.prog n_f39 [ov,.lit (.int .i64 1)] st (.lit (.int .i64 (ixI (l.findIdx? fun x=>decide (x = 1))))):=by
 refine aP hmix k_f39 rfl rfl fun Q hQ=>?_
 unfold aFun c_f39
 obtain ⟨v1,v2,v3,v4,v5,v6,v7,v8⟩:=hm.facts
 rw [mc] at v8
 simp (config:=KF) (disch:=omega) only [bZ,↓reduceIte,Nat.reduceEqDiff,reduceCtorEq,v1,v8]
 rw [f39_7w]
 refine cJ (A:=Nat) (fun k=>l.length - k) (fun k=>⟨[(0,ov),(1,.lit (.int .i64 1)),(7,.lit (.int .i64 (l.length:Nat))),(8,.lit (.int .i64 (k:Nat)))],[]⟩) (fun _=>st)
  (fun k=>k≤l.length∧∀ j (h:j < l.length),j < k→l[j]≠1) 0 ⟨Nat.zero_le _,fun _ _ h=>by omega⟩ (Sf.le_refl _) rfl ?_
 rintro k ⟨h1,h2⟩ K hK hKe hKr
 try dsimp only
 by_cases hk:k < l.length
 ·rcases hm with ⟨rfl,e⟩ | ⟨bi,cap,r,rfl,hg,h3,h4⟩
  ·simp [ints] at e; subst e; simp at hk
  have hd:(ints l++r).drop k = .lit (.int .i64 l[k])::(ints l++r).drop (k + 1):=by
   have hk2:k < (ints l++r).length:=by simp [ints]; omega
   rw [List.drop_eq_getElem_cons hk2,List.getElem_append_left (by simpa [ints] using hk)]
   simp [ints]
  rw [mc] at *
  by_cases he:l[k] = 1
  ·rw [he] at hd
   have hf:l.findIdx? (fun x=>decide (x = 1)) = some k:=by
    rw [List.findIdx?_eq_some_iff_getElem]
    exact ⟨hk,by simp [he],fun j hj=>by simp [h2 j (by omega) hj]⟩
   rw [hf] at hQ
   simp (config:=KF) (disch:=omega) only [bZ,aD,b9,ixSV,aa,cP,↓reduceIte,Nat.reduceEqDiff,reduceCtorEq,Nat.mul_one,hg,hd]
   refine hKr _ _ ?_
   simp (config:=KF) (disch:=omega) only [bZ,aD,retI,↓reduceIte]
   exact hQ _
  ·have he':¬ (1:Int) = l[k]:=fun q=>he q.symm
   simp (config:=KF) (disch:=omega) only [bZ,b9,ixSV,aa,cP,↓reduceIte,Nat.reduceEqDiff,reduceCtorEq,aR,Nat.mul_one,hg,hd]
   refine hK (k + 1) _ ⟨by omega,fun j hj hjk=>?_⟩ (by omega) (Sf.le_refl _)
   by_cases e:j = k
   ·subst e; exact he
   ·exact h2 j hj (by omega)
 ·simp (config:=KF) (disch:=omega) only [bZ,↓reduceIte,Nat.reduceEqDiff,reduceCtorEq]
  refine hKe _ _ _ ?_
  simp (config:=KF) (disch:=omega) only [bZ,retI,↓reduceIte,Int.reduceNeg]
  have:l.findIdx? (fun x=>decide (x = 1)) = none:=by
   rw [List.findIdx?_eq_none_iff]
   intro x hx
   obtain ⟨j,hj,rfl⟩:=List.getElem_of_mem hx
   simp [h2 j hj (by omega)]
  rw [this] at hQ
  exact hQ _
theorem jv (st:St) {l:List Ev} (h5:l.length≤5000) {xs:List Int} (hxl:xs.length = l.length) (hx:∀ (k:Nat) (hk:k < l.length),exO (pAll (l.take k)) l[k] = some (xs[k]'(by omega))∧(pAll (l.take k)).bound = []) :
  aF Go.Proofs.Try.prog n_f16 [.sl false 30 (l.map evA)] st (fun v _=>v = .tup [.lit (.int .i64 (ixI (xs.findIdx? fun x=>decide (x = 1)))),.lit (.int .i64 0)]):=by
 refine a8 hmix k_f16 rfl rfl fun Q hQ=>?_
 unfold aFun c_f16
 simp (config:=KF) (disch:=omega) only [bZ,id,↓reduceIte,Nat.reduceEqDiff,reduceCtorEq]
 refine aK rfl e_f15 (xall_calls st h5 hxl hx) rfl fun v s1 hr=>?_
 obtain ⟨ov,rfl,hm⟩:=hr
 obtain ⟨v1,v2,v3,v4,v5,v6,v7,v8⟩:=hm.facts
 simp (config:=KF) (disch:=omega) only [bZ,cw,id,↓reduceIte,Nat.reduceEqDiff,reduceCtorEq,not_true_eq_false,decide_false,v1,v3]
 refine aQ (vs:=[ov,.lit (.int .i64 1)]) (by simp [v1,jh]) e_f39 (xindex_pure hm (by omega)) (by simp [v5,cI]) ?_
 simp (config:=KF) (disch:=omega) only [bZ,retI,resI,↓reduceIte,Nat.reduceEqDiff]
 exact hQ _ _ rfl
end Go.Fx.YtgnockaonokmaaaFx

