/- What the functions that the statement reaches compute: part 3. -/
import Derived.Test.YtoiokbmgdcaaoaaFxW2
namespace Go.Fx.YtoiokbmgdcaaoaaFx
open Go Go.Fx
attribute [local irreducible] aC runI ap am

set_option maxRecDepth 100000
set_option maxHeartbeats 4000000

def PV (v:AV) (L:List (List UInt8)):Prop:=(v = .lit (.slice none 0 0)∧L = [])∨v = .sl false 1 (L.map fun d=>.sl false 1 (BB d))
theorem PV.facts {v:AV} {L:List (List UInt8)} (h:PV v L):v.dis = v∧v.own1 = v∧v.own2 = v∧v.solid1 = true∧v.noL = true∧v.cells = [v]∧(∀ s,kill s v = v)∧(∀ st',lenI .sl st' v = .ok (.lit (.int .i64 (L.length:Nat)))):=by
 rcases h with ⟨rfl,rfl⟩ | rfl
 ·exact ⟨rfl,rfl,rfl,rfl,rfl,rfl,fun _=>rfl,fun _=>rfl⟩
 ·exact ⟨rfl,rfl,rfl,rfl,rfl,rfl,fun _=>rfl,fun _=>by rw [gS,List.length_map]⟩
theorem ixf_pure {st:St} {v x:AV} {L:List (List UInt8)} {r:List UInt8} {b:Nat} (hv:PV v L) (hx:BV x r) (hg:st.get b = some [x]) (hl:L.length≤1000) (hd:∀ d ∈ L,d.length≤1000) (hr:r.length≤1000) :
  ∃ i:Int,(0≤i↔∃ d ∈ L,r <+: d)∧aF Go.Proofs.Try.prog n_f60 [v,.fn (.func n_f51) [] [.ptr b 0]] st (.lit (.int .i64 i)):=by
 obtain ⟨v1,v2,v3,v4,v5,v6,v7,v8⟩:=hv.facts
 obtain ⟨x1,x2,x3,x4,x5,x6,x7,x8,x9⟩:=hx.facts
 have hcl:∀ d ∈ L,aF Go.Proofs.Try.prog n_f51 [.sl false 1 (BB d),.ptr b 0] st (.lit (.bool (decide (r <+: d)))):=fun d hdm=>by
  have hp:=fH st (v:=.sl false 1 (BB d)) (.inr rfl) hx (by have:=hd d hdm; omega) (by omega)
  refine aV hmix k_f51 rfl rfl fun Q hQ=>?_
  unfold aFun c_f51
  simp (config:=KF) (disch:=omega) only [bZ,ag,id,↓reduceIte,Nat.reduceEqDiff,reduceCtorEq,hg,x1]
  refine aK (vs:=[_,x]) (by simp [x1]; rfl) e_f29 hp (by simp [x5]; rfl) ?_
  simp (config:=KF) (disch:=omega) only [bZ,retI,↓reduceIte,Nat.reduceEqDiff,reduceCtorEq]
  exact hQ _
 refine ⟨match L.findIdx? (fun d=>decide (r <+: d)) with | some k=>(k:Int) | none=>-1,?_,?_⟩
 ·cases h:L.findIdx? (fun d=>decide (r <+: d)) with
  | none =>
    rw [List.findIdx?_eq_none_iff] at h
    simp only
    exact ⟨fun q=>by omega,fun ⟨d,hd,hp⟩=>by have:=h d hd; simp [hp] at this⟩
  | some k =>
    rw [List.findIdx?_eq_some_iff_getElem] at h
    obtain ⟨hk,hp,_⟩:=h
    simp only
    exact ⟨fun _=>⟨L[k],List.getElem_mem hk,by simpa using hp⟩,fun _=>by omega⟩
 refine aV hmix k_f60 rfl rfl fun Q hQ=>?_
 unfold aFun c_f60
 simp (config:=KF) (disch:=omega) only [bZ,iz,↓reduceIte,Nat.reduceEqDiff,reduceCtorEq,v1,v8]
 rw [f60_7w]
 refine da (A:=Nat) (fun k=>L.length - k) (fun k=>⟨[(0,v),(1,.fn (.func n_f51) [] [.ptr b 0]),(7,.lit (.int .i64 (L.length:Nat))),(8,.lit (.int .i64 (k:Nat)))],[]⟩) (fun _=>st)
  (fun k=>k≤L.length∧∀ j (hj:j < L.length),j < k→¬ r <+: L[j]) 0 ⟨Nat.zero_le _,fun j _ h=>absurd h (Nat.not_lt_zero _)⟩ (Sf.le_refl _) rfl ?_
 rintro k ⟨h1,h2⟩ K hK hKe hKr
 try dsimp only
 by_cases hk:k < L.length
 ·have hve:v = .sl false 1 (L.map fun d=>.sl false 1 (BB d)):=by
   rcases hv with ⟨_,e⟩ | e
   ·rw [e] at hk; simp at hk
   ·exact e
  subst hve
  have hgd:(L.map fun d=>AV.sl false 1 (BB d)).getD k .any = .sl false 1 (BB L[k]):=by simp [hk]
  have hll:(L.map fun d=>AV.sl false 1 (BB d)).length = L.length:=List.length_map ..
  have hc:=hcl L[k] (List.getElem_mem hk)
  by_cases hp:r <+: L[k]
  ·have hfi:L.findIdx? (fun d=>decide (r <+: d)) = some k:=List.findIdx?_eq_some_iff_getElem.2 ⟨hk,by simpa using hp,fun j hj=>by simpa using h2 j (by omega) hj⟩
   rw [hfi] at hQ
   rw [decide_eq_true hp] at hc
   simp (config:=KF) (disch:=omega) only [bZ,ixSV,ag,iz,bw,↓reduceIte,Nat.reduceEqDiff,reduceCtorEq,hgd,hll]
   refine aK rfl e_f51 hc rfl ?_
   simp (config:=KF) (disch:=omega) only [bZ,↓reduceIte,Nat.reduceEqDiff,reduceCtorEq]
   refine hKr _ _ ?_
   simp (config:=KF) (disch:=omega) only [bZ,retI,↓reduceIte]
   exact hQ _
  ·rw [decide_eq_false hp] at hc
   simp (config:=KF) (disch:=omega) only [bZ,ixSV,ag,iz,bw,↓reduceIte,Nat.reduceEqDiff,reduceCtorEq,hgd,hll]
   refine aK rfl e_f51 hc rfl ?_
   simp (config:=KF) (disch:=omega) only [bZ,↓reduceIte,Nat.reduceEqDiff,reduceCtorEq]
   refine hK (k + 1) _ ⟨by omega,fun j hj hjk=>?_⟩ (by omega) (Sf.le_refl _)
   by_cases e:j = k
   ·subst e; exact hp
   ·exact h2 j hj (by omega)
 ·have hfi:L.findIdx? (fun d=>decide (r <+: d)) = none:=List.findIdx?_eq_none_iff.2 fun d hd=>by
   obtain ⟨j,hj,rfl⟩:=List.mem_iff_getElem.1 hd
   exact decide_eq_false (h2 j hj (by omega))
  rw [hfi] at hQ
  simp (config:=KF) (disch:=omega) only [bZ,az,bp,↓reduceIte,Nat.reduceEqDiff,reduceCtorEq]
  refine hKe _ _ _ ?_
  simp (config:=KF) (disch:=omega) only [bZ,aj,retI,↓reduceIte,Int.reduceNeg]
  exact hQ _
structure Pi where
 f1:Int
 f2:Int
 t1:Int
 t2:Int
 cap:Int
 w:List UInt8
 r:List UInt8
 p:List (List UInt8)
 eof:Bool
 cpd:Bool
def piC (x:Pi) (W R P:AV):List AV:=[.lit (.int .i64 x.f1),.lit (.int .i64 x.f2),.lit (.int .i64 x.t1),.lit (.int .i64 x.t2),.lit (.int .i64 x.cap),W,R,P,.lit (.bool x.eof),.lit (.bool x.cpd)]
structure POk (x:Pi) (W R P:AV):Prop where
 w:BV W x.w
 r:BV R x.r
 p:PV P x.p
 wl:x.w.length≤1000
 rl:x.r.length≤1000
 pl:x.p.length≤1000
 dl:∀ d ∈ x.p,d.length≤1000
def gY (x:Pi):Prop:=x.r <+: x.w∨(x.w <+: x.r∧∃ d ∈ x.p,x.r.drop x.w.length <+: d)
open Classical in
theorem made_calls (st:St) {x:Pi} {W R P:AV} (h:POk x W R P):aX Go.Proofs.Try.prog n_f28 [.agg (piC x W R P)] st (fun v _=>v = .lit (.bool (decide (gY x)))):=by
 obtain ⟨a1,a2,a3,a4,a5,a6,a7,a8,a9⟩:=h.w.facts
 obtain ⟨b1,b2,b3,b4,b5,b6,b7,b8,b9⟩:=h.r.facts
 obtain ⟨c1,c2,c3,c4,c5,c6,c7,c8⟩:=h.p.facts
 have hwl:=h.wl
 have hrl:=h.rl
 refine d5 hmix k_f28 rfl rfl fun Q hQ=>?_
 unfold aFun c_f28
 unfold piC
 have hp:=fH st h.w h.r (by omega) (by omega)
 obtain ⟨y,hy,hcut⟩:=cut_pure h.r h.w (by omega) (by omega)
 obtain ⟨y1,y2,y3,y4,y5,y6,y7,y8,y9⟩:=hy.facts
 simp (config:=KF) (disch:=omega) only [bZ,dn,addA,ag,id,↓reduceIte,Nat.reduceEqDiff,Nat.reduceAdd,reduceCtorEq,f28_1e,a1,a2,a4,b1,b2,b4,c2,c4]
 refine aK (vs:=[W,R]) (by simp [a1,b1]) e_f29 hp (by simp [a5,b5]) ?_
 by_cases k1:x.r <+: x.w
 ·have hd:=hQ (.lit (.bool (decide (gY x)))) st rfl
  rw [decide_eq_true (show gY x from .inl k1)] at hd
  rw [decide_eq_true k1]
  simp (config:=KF) (disch:=omega) only [bZ,retI,↓reduceIte,Nat.reduceEqDiff]
  exact hd
 rw [decide_eq_false k1]
 simp (config:=KF) (disch:=omega) only [bZ,addA,ag,id,↓reduceIte,Nat.reduceEqDiff,a1,b1]
 refine aK (vs:=[R,W]) (by simp [a1,b1]) e_f49 (hcut st) (by simp [a5,b5]) ?_
 by_cases k2:x.w <+: x.r
 ·rw [if_pos k2] at hy
  rw [decide_eq_true k2]
  have hgs:=ca st [y]
  obtain ⟨i,hi,hix⟩:=ixf_pure h.p hy hgs h.pl h.dl (by rw [List.length_drop]; omega)
  have hd:=fun s=>hQ (.lit (.bool (decide (gY x)))) s rfl
  have hmp:decide (gY x) = decide (i ≥ 0):=decide_eq_decide.2 ⟨fun q=>by
   rcases q with q | q
   ·exact absurd q k1
   ·exact hi.2 q.2,fun q=>.inr ⟨k2,hi.1 q⟩⟩
  rw [hmp] at hd
  have hco:aF Go.Proofs.Try.prog n_f50 [P,.fn (.func n_f51) [] [.ptr st.boxes.length 0]] (st.push (.cells [y])) (.lit (.bool (decide (i ≥ 0)))):=by
   refine aV hmix k_f50 rfl rfl fun Q hQ=>?_
   unfold aFun c_f50
   simp (config:=KF) (disch:=omega) only [bZ,id,iz,↓reduceIte,Nat.reduceEqDiff,reduceCtorEq,c1]
   refine aK (vs:=[P,_]) (by simp [c1]; rfl) e_f60 hix (by simp [c5]; rfl) ?_
   simp (config:=KF) (disch:=omega) only [bZ,retI,f0,↓reduceIte,Nat.reduceEqDiff,reduceCtorEq]
   exact hQ _
  simp (config:=KF) (disch:=omega) only [bZ,AI.dst,de,pT,mY,extV,nz,ar,addA,ag,id,aY,fg,List.nil_append,↓reduceIte,Nat.reduceEqDiff,Nat.reduceLeDiff,ca,gb,c1,y1,y3,y4,y6]
  refine aK (vs:=[P,_]) (by simp [c1]; rfl) e_f50 hco (by simp [c5]; rfl) ?_
  simp (config:=KF) (disch:=omega) only [bZ,retI,↓reduceIte,Nat.reduceEqDiff]
  exact hd _
 ·rw [if_neg k2] at hy
  rw [decide_eq_false k2]
  have hd:=fun s=>hQ (.lit (.bool (decide (gY x)))) s rfl
  rw [decide_eq_false (show ¬ gY x from fun q=>by rcases q with q | q; exact k1 q; exact k2 q.1)] at hd
  simp (config:=KF) (disch:=omega) only [bZ,retI,AI.dst,de,mY,extV,ar,aY,↓reduceIte,Nat.reduceEqDiff,Nat.reduceLeDiff,ca,gb,y1,y3,y4,y6]
  exact hd _
end Go.Fx.YtoiokbmgdcaaoaaFx

