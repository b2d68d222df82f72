/- What the functions that the statement reaches compute: part 23. -/
import Derived.Test.YtgmeefljgbaanaaFxW22
namespace Go.Fx.YtgmeefljgbaanaaFx
open Go Go.Fx
attribute [local irreducible] aC runI aF a9

set_option maxRecDepth 100000
set_option maxHeartbeats 4000000

/-! Calls as values; few; what begins. -/
structure Act where
  w:Int
  t:Int
  n:Int
  m:Int
  nm:ByteArray
  port:Int
  pol:Int
  life:Nat
  d:List UInt8
  at_:Nat
def dV (d:List UInt8):AV:=.sl false 1 (BB d)
def actV (a:Act):AV:=actA a.w a.t a.n a.m a.nm a.port a.pol (a.life:Nat) (dV a.d) (a.at_:Nat)
def fewB (l:List Act):Bool:=l.all fun a=>decide (a.d.length≤2060∧a.nm.size≤50)
theorem act_getD {l:List Act} {i:Nat} (h:i < l.length):(l.map actV).getD i .any = .agg [.lit (.int .i64 l[i].w),.lit (.int .i64 l[i].t),.lit (.int .i64 l[i].n),.lit (.int .i64 l[i].m),.lit (.string l[i].nm),.lit (.int .i64 l[i].port),.lit (.int .i64 l[i].pol),.lit (.int .u64 (l[i].life:Nat)),.sl false 1 (BB l[i].d),.lit (.int .u64 (l[i].at_:Nat))]:=by
  rw [List.getD_eq_getElem?_getD,List.getElem?_map,List.getElem?_eq_getElem h]; rfl
theorem few_pure (l:List Act) (hl:l.length≤60) (st:St):az Go.Proofs.Try.prog n_f13 [.sl false 10 (l.map actV)] st (.lit (.bool (fewB l))):=by
  refine aB hmix k_f13 rfl rfl fun Q hQ=>?_
  unfold aFun c_f13
  simp (config:=KF) (disch:=omega) only [bZ,↓reduceIte,reduceCtorEq]
  rw [f13_7w]
  refine dN (A:=Nat) (fun i=>l.length - i) (fun i=>⟨[(0,.sl false 10 (l.map actV)),(3,.lit (.int .i64 (i:Nat)))],[]⟩) (fun _=>st)
    (fun i=>i≤l.length∧fewB (l.take i) = true) 0 ⟨Nat.zero_le _,rfl⟩ (Sf.le_refl _) rfl ?_
  rintro i ⟨h1,h2⟩ K hK hKe hKr
  by_cases h3:i < l.length
  · have hg:=act_getD h3
    have htk:fewB (l.take (i + 1)) = decide (l[i].d.length≤2060∧l[i].nm.size≤50):=by
      rw [List.take_succ_eq_append_getElem h3]
      unfold fewB at h2 ⊢
      rw [List.all_append,h2]; simp
    have hf:¬ (l[i].d.length≤2060∧l[i].nm.size≤50)→fewB l = false:=fun h4=>by
      unfold fewB
      rw [List.all_eq_false]
      exact ⟨l[i],List.getElem_mem h3,by simpa using h4⟩
    by_cases h4:l[i].d.length≤2060
    · by_cases h5:l[i].nm.size≤50
      · rw [decide_eq_true ⟨h4,h5⟩] at htk
        simp (config:=KF) (disch:=omega) only [bZ,AI.dst,ji,ixSV,ixA,lenI,addA,aa,di,cM,↓reduceIte,Nat.reduceEqDiff,reduceCtorEq,bD,bV,cU,ci,bG,bY,bW,hg]
        exact hK (i + 1) _ ⟨h3,htk⟩ (by omega) (Sf.le_refl _)
      · rw [hf (fun q=>h5 q.2)] at hQ
        simp (config:=KF) (disch:=omega) only [bZ,aE,AI.dst,ji,ixSV,ixA,lenI,addA,aa,cM,↓reduceIte,Nat.reduceEqDiff,reduceCtorEq,bD,bV,cU,bG,bW,hg]
        refine hKr _ _ ?_
        simp (config:=KF) (disch:=omega) only [bZ,aE,retI,↓reduceIte]
        exact hQ _
    · rw [hf (fun q=>h4 q.1)] at hQ
      simp (config:=KF) (disch:=omega) only [bZ,aE,AI.dst,ji,ixSV,ixA,lenI,addA,aa,cM,↓reduceIte,Nat.reduceEqDiff,reduceCtorEq,bD,bV,cU,dy,bW,hg]
      refine hKr _ _ ?_
      simp (config:=KF) (disch:=omega) only [bZ,aE,retI,↓reduceIte]
      exact hQ _
  · obtain rfl:i = l.length:=by omega
    rw [List.take_length] at h2
    rw [h2] at hQ
    simp (config:=KF) (disch:=omega) only [bZ,bh,cf,lenI,↓reduceIte,Nat.reduceEqDiff,reduceCtorEq,ci]
    refine hKe _ _ _ ?_
    simp (config:=KF) (disch:=omega) only [bZ,aK,retI,↓reduceIte]
    exact hQ _

def Bg (s:List UInt8) (r:List UInt8×Bool):Bool:=if r.2 = true then decide (r.1.length < s.length) && decide (s.take r.1.length = r.1) else decide (s = r.1)
theorem iO (p:List UInt8) (k:Nat):(BB p).take k = BB (p.take k):=by unfold BB; rw [List.map_take]
theorem begins_pure {st:St} {w:AV} {p q:List UInt8} (hw:DV w st q) (c:Bool):az Go.Proofs.Try.prog n_f19 [dV p,w,.lit (.bool c)] st (.lit (.bool (Bg p (q,c)))):=by
  obtain ⟨w1,w2,w3,w4,w5,w6,w7,w8⟩:=hw.facts
  have hv:DV (dV p) st p:=DV.sl st p
  refine aB hmix k_f19 rfl rfl fun Q hQ=>?_
  unfold aFun c_f19
  cases c with
  | false =>
    simp (config:=KF) (disch:=omega) only [bZ,m8,unA,↓reduceIte,Nat.reduceEqDiff,Nat.reduceAdd,reduceCtorEq,w1]
    refine iU hv ?_
    simp (config:=KF) (disch:=omega) only [bZ,m8,↓reduceIte,Nat.reduceEqDiff,reduceCtorEq,w1]
    refine iU hw ?_
    simp (config:=KF) (disch:=omega) only [bZ,retI,↓reduceIte,Nat.reduceEqDiff,reduceCtorEq,qg]
    exact hQ _
  | true =>
    unfold Bg at hQ
    rw [if_pos rfl] at hQ
    unfold dV
    by_cases hlt:q.length < p.length
    · simp (config:=KF) (disch:=omega) only [bZ,dQ,eO,hh_conv,qi,ft,cW,lj,AI.dst,iq,ixTo,unA,Option.map_some,Option.map_none,↓reduceIte,Nat.reduceEqDiff,Nat.reduceAdd,reduceCtorEq,bD,iO,ma,bV,fu,bW,w1,w8]
      refine iU (DV.sl st (p.take q.length)) ?_
      simp (config:=KF) (disch:=omega) only [bZ,dQ,hh_conv,cW,AI.dst,↓reduceIte,Nat.reduceEqDiff,reduceCtorEq,w1]
      refine iU hw ?_
      simp (config:=KF) (disch:=omega) only [bZ,aM,retI,AI.dst,↓reduceIte,Nat.reduceEqDiff,reduceCtorEq,qg]
      simp only [decide_eq_true hlt,Bool.true_and] at hQ
      exact hQ _
    · simp only [decide_eq_false hlt,Bool.false_and] at hQ
      simp (config:=KF) (disch:=omega) only [bZ,dQ,eO,ft,eA,e9,aM,lj,retI,AI.dst,unA,↓reduceIte,Nat.reduceEqDiff,Nat.reduceAdd,reduceCtorEq,bD,iQ,w1,w8]
      exact hQ _
end Go.Fx.YtgmeefljgbaanaaFx

