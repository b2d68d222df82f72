/- What the functions that the statement reaches compute: part 7. -/
import Derived.Test.YtoiokbmgdcaaoaaFxW6
namespace Go.Fx.YtoiokbmgdcaaoaaFx
open Go Go.Fx
attribute [local irreducible] aC runI ap am

set_option maxRecDepth 100000
set_option maxHeartbeats 4000000

theorem exs_kind (l:List Ev) (k:Nat):∀ y ∈ exsT l k,y.c.kind = y.x.kind:=by
 intro y hy
 unfold exsT at hy
 obtain ⟨i,_,hi⟩:=List.mem_filterMap.1 hy
 unfold exAt at hi
 split at hi
 ·rename_i e he
  split at hi
  ·rename_i hb
   cases hi
   unfold endB at hb
   rw [Bool.and_eq_true] at hb
   obtain ⟨h1,h2⟩:=hb
   have h1:=of_decide_eq_true h1
   unfold endC
   rw [if_pos h1]
   cases hs:subC e.task (l.take i) with
   | none=>rw [hs] at h2; cases h2
   | some c=>rw [hs] at h2; exact of_decide_eq_true h2
  ·cases hi
 ·cases hi
theorem fm_congr {f g:Nat→Option Ex}:∀ {l:List Nat},(∀ i ∈ l,f i = g i)→l.filterMap f = l.filterMap g
 | [],_=>rfl
 | i::l,h=>by rw [List.filterMap_cons,List.filterMap_cons,h i (by simp),fm_congr fun j hj=>h j (by simp [hj])]
theorem exs_take (l:List Ev) {k:Nat} (hk:k≤l.length):exsT (l.take k) k = exsT l k:=by
 unfold exsT
 refine fm_congr fun i hi=>?_
 have hi:=List.mem_range.1 hi
 unfold exAt
 rw [List.getElem?_take,if_pos hi,List.take_take,Nat.min_eq_left (by omega)]
theorem sum_len (p:Pi):∀ {E:List Ex},(∀ y ∈ E,y.c.kind = y.x.kind)→(((E.flatMap (wrE (p.f1,p.f2))).length:Nat):Int) - (((E.flatMap (rdE (p.t1,p.t2))).length:Nat):Int) = (E.map (stU p)).sum
 | [],_=>rfl
 | y :: E, h => by
   have ih:=sum_len p (E:=E) fun z hz=>h z (by simp [hz])
   have hk:=h y (by simp)
   rw [List.flatMap_cons,List.flatMap_cons,List.length_append,List.length_append,List.map_cons,List.sum_cons,← ih]
   have hs:stU p y = ((wrE (p.f1,p.f2) y).length:Int) - ((rdE (p.t1,p.t2) y).length:Int):=by
    unfold stU wrE rdE
    rw [hk]
    have hl:(prt y.c.data.v).flatten.length = szC y.c:=by unfold szC; rw [List.length_flatten]
    congr 1
    ·split
     ·rw [List.length_take,hl]
      omega
     ·rfl
    ·split <;> rfl
   rw [hs]
   omega
theorem sumU_all (p:Pi) (l:List Ev) (k:Nat):sumU p (exsT l k) (exsT l k).length = ((wrT (p.f1,p.f2) l k).length:Int) - ((rdT (p.t1,p.t2) l k).length:Int):=by
 unfold sumU
 rw [List.take_length,← sum_len p (exs_kind l k)]
 rfl
def mt (x:Pi) (k:Nat):Prop:=x.r <+: x.w∨(x.w <+: x.r∧∃ d ∈ x.p.take k,x.r.drop x.w.length <+: d)
theorem fineK_succ (x:Pi) {k:Nat} (hk:k < x.p.length):mt x (k + 1)↔mt x k∨(x.w <+: x.r∧x.r.drop x.w.length <+: x.p[k]):=by
 unfold mt
 rw [List.take_succ_eq_append_getElem hk]
 constructor
 ·rintro (q | ⟨q,d,hd,hp⟩)
  ·exact .inl (.inl q)
  ·rcases List.mem_append.1 hd with hd | hd
   ·exact .inl (.inr ⟨q,d,hd,hp⟩)
   ·rw [List.mem_singleton] at hd
    subst hd
    exact .inr ⟨q,hp⟩
 ·rintro ((q | ⟨q,d,hd,hp⟩) | ⟨q,hp⟩)
  ·exact .inl q
  ·exact .inr ⟨q,d,List.mem_append.2 (.inl hd),hp⟩
  ·exact .inr ⟨q,_,List.mem_append.2 (.inr (by simp)),hp⟩
def jo (x:Pi) (l:List Ev):Prop:=∃ k,k≤l.length∧sumU x (exsT l k) (exsT l k).length > x.cap
open Classical in
theorem rof_loop (st:St) {x:Pi} {W R P:AV} (h:POk x W R P) {l:List Ev} (hl:l.length≤1000) (hok:∀ e ∈ l,EvOk e) (hcap:x.cap≤1073741824) {Q:AV→St→Prop} (eof:Bool)
  (hQ:Q (.lit (.int .i64 (if jo x l then 3 else 0))) st) :
  aC Go.Proofs.Try.prog id true f16_40 ⟨[(0,.sl false 30 (l.map evA)),(3,.lptr 3 0),(7,.lit (.int .i64 0))],[(3,[.lit (.int .i64 x.f1),.lit (.int .i64 x.f2),.lit (.int .i64 x.t1),.lit (.int .i64 x.t2),.lit (.int .i64 x.cap),W,R,P,.lit (.bool eof),.lit (.bool false)])]⟩ st (fK 2 (seqQ (aC Go.Proofs.Try.prog id true f16_53) (retQ [RI.tmp 4] Q))):=by
 obtain ⟨a1,a2,a3,a4,a5,a6,a7,a8,a9⟩:=h.w.facts
 obtain ⟨b1,b2,b3,b4,b5,b6,b7,b8,b9⟩:=h.r.facts
 obtain ⟨c1,c2,c3,c4,c5,c6,c7,c8⟩:=h.p.facts
 have hll:(l.map evA).length = l.length:=List.length_map ..
 rw [f16_40w]
 refine da (A:=Nat) (fun k=>l.length + 1 - k) (fun k=>⟨[(0,.sl false 30 (l.map evA)),(3,.lptr 3 0),(7,.lit (.int .i64 (k:Nat)))],[(3,[.lit (.int .i64 x.f1),.lit (.int .i64 x.f2),.lit (.int .i64 x.t1),.lit (.int .i64 x.t2),.lit (.int .i64 x.cap),W,R,P,.lit (.bool eof),.lit (.bool false)])]⟩) (fun _=>st)
  (fun k=>k≤l.length + 1∧∀ j,j < k→¬ sumU x (exsT l j) (exsT l j).length > x.cap) 0 ⟨Nat.zero_le _,fun j h=>absurd h (Nat.not_lt_zero _)⟩ (Sf.le_refl _) rfl ?_
 rintro k ⟨h1,h2⟩ K hK hKe hKr
 try dsimp only
 by_cases hk:k≤l.length
 ·have hK:=hK (k + 1)
  have hu:=sumU_all x l k
  have hw1:=wrT_len hok (x.f1,x.f2) k
  have hr1:=rdT_len hok (x.t1,x.t2) k
  have hlt:(l.take k).length = k:=by rw [List.length_take]; omega
  have hokt:∀ e ∈ l.take k,EvOk e:=fun e he=>hok e (List.mem_of_mem_take he)
  have hwr:=wr_pure st (l:=l.take k) (by omega) hokt x.f1 x.f2
  have hrd:=rd_pure st (l:=l.take k) (by omega) hokt x.t1 x.t2
  unfold wrT at hwr
  unfold rdT at hrd
  rw [hlt,exs_take l hk,List.map_take] at hwr hrd
  change aF _ _ _ _ (bV (wrT (x.f1,x.f2) l k)) at hwr
  change aF _ _ _ _ (bV (rdT (x.t1,x.t2) l k)) at hrd
  obtain ⟨w1,w2,w3,w4,w5,w6,w7,w8,w9⟩:=(bV_BV (wrT (x.f1,x.f2) l k)).facts
  obtain ⟨r1,r2,r3,r4,r5,r6,r7,r8,r9⟩:=(bV_BV (rdT (x.t1,x.t2) l k)).facts
  generalize bV (wrT (x.f1,x.f2) l k) = WV at *
  generalize bV (rdT (x.t1,x.t2) l k) = RV at *
  generalize (wrT (x.f1,x.f2) l k).length = wl at *
  generalize (rdT (x.t1,x.t2) l k).length = rl at *
  simp (config:=KF) (disch:=omega) only [bZ,cv,dz,bR,bL,eg,gQ,aE,cK,ixTo,lenI,addA,ag,lL,aM,id,↓reduceIte,Nat.reduceEqDiff,Nat.reduceAdd,Nat.reduceLeDiff,reduceCtorEq,hll]
  refine call_h rfl e_f32 hwr rfl ?_
  simp (config:=KF) (disch:=omega) only [bZ,cv,dz,bR,bL,eg,eu,gQ,cS,aE,cK,ixTo,addA,ag,id,↓reduceIte,Nat.reduceEqDiff,Nat.reduceAdd,Nat.reduceLeDiff,reduceCtorEq,hll,w8]
  refine call_h rfl e_f33 hrd rfl ?_
  by_cases q:sumU x (exsT l k) (exsT l k).length > x.cap
  ·rw [if_pos (show jo x l from ⟨k,hk,q⟩)] at hQ
   rw [hu] at q
   simp (config:=KF) (disch:=omega) only [bZ,dM,cv,dN,bR,bL,eu,cS,aE,bg,addA,ag,fZ,↓reduceIte,Nat.reduceEqDiff,reduceCtorEq,r8]
   refine hKr _ _ ?_
   simp (config:=KF) (disch:=omega) only [bZ,retI,↓reduceIte]
   exact hQ
  ·have hnx:∀ j,j < k + 1→¬ sumU x (exsT l j) (exsT l j).length > x.cap:=fun j hj=>by
    by_cases e:j = k
    ·subst e; exact q
    ·exact h2 j (by omega)
   rw [hu] at q
   simp (config:=KF) (disch:=omega) only [bZ,dM,cv,dN,bR,bL,eu,cS,aE,bg,addA,ag,fZ,↓reduceIte,Nat.reduceEqDiff,reduceCtorEq,r8]
   exact hK _ ⟨by omega,hnx⟩ (by omega) (Sf.le_refl _)
 ·have hkl:k = l.length + 1:=by omega
  subst hkl
  rw [if_neg (show ¬ jo x l from fun ⟨j,hj,q⟩=>h2 j (by omega) q)] at hQ
  simp (config:=KF) (disch:=omega) only [bZ,az,bp,lenI,lL,↓reduceIte,Nat.reduceEqDiff,reduceCtorEq,hll]
  refine hKe _ _ _ ?_
  simp (config:=KF) (disch:=omega) only [bZ,aj,retI,↓reduceIte,f16_53e]
  exact hQ
open Classical in
theorem rof_pure (st:St) {x:Pi} {W R P:AV} (h:POk x W R P) {l:List Ev} (hl:l.length≤1000) (hok:∀ e ∈ l,EvOk e) (hcap:x.cap≤1073741824) :
  aF Go.Proofs.Try.prog n_f16 [.sl false 30 (l.map evA),.agg (piC x W R P)] st (.lit (.int .i64 (flawP x (jo x l)))):=by
 obtain ⟨a1,a2,a3,a4,a5,a6,a7,a8,a9⟩:=h.w.facts
 obtain ⟨b1,b2,b3,b4,b5,b6,b7,b8,b9⟩:=h.r.facts
 obtain ⟨c1,c2,c3,c4,c5,c6,c7,c8⟩:=h.p.facts
 have hwl:=h.wl
 have hrl:=h.rl
 have hpl:=h.pl
 have hll:(l.map evA).length = l.length:=List.length_map ..
 refine aV hmix k_f16 rfl rfl fun Q hQ=>?_
 unfold aFun c_f16
 have hbr:=iE st h.r h.w (by omega) (by omega)
 have hbw:=iE st h.w h.r (by omega) (by omega)
 have h0:decide (x.r <+: x.w) = decide (mt x 0):=decide_eq_decide.2 ⟨.inl,fun q=>by
  rcases q with q | ⟨_,d,hd,_⟩
  ·exact q
  ·simp at hd⟩
 rw [h0] at hbr
 unfold piC
 have hQ:=hQ st
 unfold flawP at hQ
 by_cases kc:x.cpd = true
 ·rw [if_pos kc] at hQ
  simp (config:=KF) (disch:=omega) only [bZ,retI,dn,addA,ag,↓reduceIte,Nat.reduceEqDiff,Nat.reduceAdd,reduceCtorEq,kc,a2,a4,b2,b4,c2,c4]
  exact hQ
 have kc:x.cpd = false:=by cases hx:x.cpd with | false=>rfl | true=>exact absurd hx kc
 rw [if_neg (by rw [kc]; simp)] at hQ
 simp (config:=KF) (disch:=omega) only [bZ,dn,addA,ag,id,↓reduceIte,Nat.reduceEqDiff,Nat.reduceAdd,reduceCtorEq,kc,a1,a2,a4,b1,b2,b4,c2,c4]
 refine aK (vs:=[R,W]) (by simp [a1,b1]) e_f31 hbr (by simp [a5,b5]) ?_
 simp (config:=KF) (disch:=omega) only [bZ,↓reduceIte,Nat.reduceEqDiff,reduceCtorEq]
 rw [f16_15w]
 refine da (A:=Nat) (fun k=>x.p.length - k) (fun k=>⟨[(0,.sl false 30 (l.map evA)),(3,.lptr 3 0),(5,.lit (.bool (decide (mt x k)))),(6,.lit (.int .i64 (k:Nat)))],[(3,[.lit (.int .i64 x.f1),.lit (.int .i64 x.f2),.lit (.int .i64 x.t1),.lit (.int .i64 x.t2),.lit (.int .i64 x.cap),W,R,P,.lit (.bool x.eof),.lit (.bool false)])]⟩) (fun _=>st)
  (fun k=>k≤x.p.length) 0 (Nat.zero_le _) (Sf.le_refl _) rfl ?_
 rintro k h1 K hK hKe hKr
 try dsimp only
 by_cases hk:k < x.p.length
 ·have hK:=hK (k + 1)
  have hsu:=fineK_succ x hk
  by_cases q:mt x k
  ·rw [decide_eq_true (hsu.2 (.inl q))] at hK
   rw [decide_eq_true q]
   simp (config:=KF) (disch:=omega) only [bZ,dM,cv,cG,dz,bq,cE,aE,bg,eM,fk,AI.dst,addA,ag,aM,↓reduceIte,Nat.reduceEqDiff,reduceCtorEq,c1,c8]
   exact hK _ (by omega) (by omega) (Sf.le_refl _)
  ·rw [decide_eq_false q]
   have hpe:P = .sl false 1 (x.p.map fun d=>.sl false 1 (BB d)):=by
    rcases h.p with ⟨_,e⟩ | e
    ·rw [e] at hk; simp at hk
    ·exact e
   have hgd:(x.p.map fun d=>AV.sl false 1 (BB d)).getD k .any = .sl false 1 (BB x.p[k]):=by simp [hk]
   have hpll:(x.p.map fun d=>AV.sl false 1 (BB d)).length = x.p.length:=List.length_map ..
   simp (config:=KF) (disch:=omega) only [bZ,cv,cG,dz,bR,bL,gQ,bB,aE,AI.dst,addA,ag,aM,id,↓reduceIte,Nat.reduceEqDiff,reduceCtorEq,a1,b1,c1,c8]
   refine call_h (vs:=[W,R]) (by simp [a1,b1]) e_f31 hbw (by simp [a5,b5]) ?_
   by_cases q2:x.w <+: x.r
   ·rw [decide_eq_true q2]
    have hle:=q2.length_le
    have hbl:=bN x.r
    have hbd:=fun v (hv:BV v (x.r.drop x.w.length))=>iE st hv (w:=.sl false 1 (BB x.p[k])) (.inr rfl) (by rw [List.length_drop]; omega) (by have:=h.dl x.p[k] (List.getElem_mem hk); omega)
    have hdd:decide (x.r.drop x.w.length <+: x.p[k]) = decide (mt x (k + 1)):=decide_eq_decide.2 ⟨fun e=>hsu.2 (.inr ⟨q2,e⟩),fun e=>by
     rcases hsu.1 e with e | e
     ·exact absurd e q
     ·exact e.2⟩
    rw [hdd] at hbd
    subst hpe
    rcases h.r with ⟨e1,e2⟩ | e1
    ·have hw0:x.w = []:=List.eq_nil_of_length_eq_zero (by rw [e2] at hle; simpa using hle)
     have hbd:=hbd _ (.inl ⟨rfl,by rw [e2]; simp⟩)
     have hw8:x.w.length = 0:=by rw [hw0]; rfl
     rw [hw8] at a8
     subst e1
     simp (config:=KF) (disch:=omega) only [bZ,dM,cG,dz,bR,fj,bL,eg,eu,bq,bB,cS,aE,bg,AI.dst,ixSV,cK,ixTo,addA,ag,id,bw,↓reduceIte,Nat.reduceEqDiff,Int.reduceLE,reduceCtorEq,a1,b1,c1,a8,hgd,hpll]
     refine aK rfl e_f31 hbd rfl ?_
     simp (config:=KF) (disch:=omega) only [bZ,AI.dst,↓reduceIte,Nat.reduceEqDiff,reduceCtorEq]
     exact hK _ (by omega) (by omega) (Sf.le_refl _)
    ·have hbd:=hbd _ (.inr rfl)
     subst e1
     simp (config:=KF) (disch:=omega) only [bZ,dM,cG,dz,bR,fj,bL,eg,eu,bq,bB,cS,aE,bg,AI.dst,ixSV,cK,ixTo,addA,ag,id,bw,↓reduceIte,Nat.reduceEqDiff,reduceCtorEq,List.take_length,ea,ec,a1,b1,c1,a8,hgd,hpll,hbl]
     refine aK rfl e_f31 hbd rfl ?_
     simp (config:=KF) (disch:=omega) only [bZ,AI.dst,↓reduceIte,Nat.reduceEqDiff,reduceCtorEq]
     exact hK _ (by omega) (by omega) (Sf.le_refl _)
   ·rw [decide_eq_false (fun e=>by rcases hsu.1 e with e | e; exact q e; exact q2 e.1)] at hK
    rw [decide_eq_false q2]
    simp (config:=KF) (disch:=omega) only [bZ,dM,cG,dz,bB,cS,cE,aE,bg,AI.dst,↓reduceIte,Nat.reduceEqDiff,reduceCtorEq]
    exact hK _ (by omega) (by omega) (Sf.le_refl _)
 ·have hkl:k = x.p.length:=by omega
  subst hkl
  have hfm:mt x x.p.length↔gY x:=by unfold mt gY; rw [List.take_length]
  simp (config:=KF) (disch:=omega) only [bZ,az,bp,addA,ag,↓reduceIte,Nat.reduceEqDiff,reduceCtorEq,c1,c8]
  refine hKe _ _ _ ?_
  by_cases km:gY x
  ·rw [decide_eq_true (hfm.2 km)]
   rw [if_neg (fun q=>q km)] at hQ
   cases ke:x.eof with
   | false =>
     rw [if_neg (by rw [ke]; simp)] at hQ
     simp (config:=KF) (disch:=omega) only [bZ,aj,AI.dst,o_un,addA,ag,unA,↓reduceIte,Nat.reduceEqDiff,reduceCtorEq]
     exact rof_loop st h hl hok hcap _ hQ
   | true =>
     simp (config:=KF) (disch:=omega) only [bZ,aj,AI.dst,o_un,addA,ag,unA,id,↓reduceIte,Nat.reduceEqDiff,reduceCtorEq,a1,b1]
     refine aK (vs:=[W,R]) (by simp [a1,b1]) e_f31 hbw (by simp [a5,b5]) ?_
     by_cases q2:x.w <+: x.r
     ·rw [decide_eq_true q2]
      rw [if_neg (fun e=>e.2 q2)] at hQ
      simp (config:=KF) (disch:=omega) only [bZ,AI.dst,o_un,unA,↓reduceIte,Nat.reduceEqDiff,reduceCtorEq]
      exact rof_loop st h hl hok hcap _ hQ
     ·rw [if_pos ⟨ke,q2⟩] at hQ
      rw [decide_eq_false q2]
      simp (config:=KF) (disch:=omega) only [bZ,retI,AI.dst,o_un,unA,↓reduceIte,Nat.reduceEqDiff,reduceCtorEq]
      exact hQ
  ·rw [decide_eq_false (fun q=>km (hfm.1 q))]
   rw [if_pos km] at hQ
   simp (config:=KF) (disch:=omega) only [bZ,aj,retI,o_un,unA,↓reduceIte,Nat.reduceEqDiff,reduceCtorEq]
   exact hQ
end Go.Fx.YtoiokbmgdcaaoaaFx

namespace Go.Fx.YtoiokbmgdcaaoaaFx
open Go Go.Fx
attribute [local irreducible] aC runI ap am

set_option maxRecDepth 100000
set_option maxHeartbeats 4000000

theorem grow3_calls (st:St):aX Go.Proofs.Try.prog n_f72 [.lit (.slice none 0 0),.lit (.int .i64 3)] st
  (fun v st'=>∃ c,3≤c∧v = .bs st.boxes.length 1 0 0 c∧∃ r,st'.get st.boxes.length = some r∧r.length = c∧∀ x ∈ r,x.NB):=by
 refine d5 hmix k_f72 rfl rfl fun Q hQ=>?_
 unfold aFun c_f72
 simp (config:=KF) (disch:=omega) only [bZ,and_self,iN,fc,o_x,cK,al,List.reduceReplicate,sliB,sl3,ixTo,lenI,fZ,List.nil_append,Int.reduceToNat,↓reduceIte,Nat.reduceEqDiff,Int.reduceLT,Int.reduceLE,Int.reduceSub,Int.reduceMul,reduceCtorEq,Nat.sub_zero,decide_false,Nat.mul_one,capX,appZX,growX]
 intro c hc
 simp (config:=KF) (disch:=omega) only [bZ,retI,jY,m5,↓reduceIte,Nat.reduceEqDiff,reduceCtorEq,if_neg]
 exact hQ _ _ ⟨c,by omega,rfl,_,ca _ _,by simp [AV.cells]; omega,fun x hx=>by
  rcases List.mem_append.1 hx with hx | hx
  ·exact jX 1 x (List.all_eq_true.1 (show (List.flatMap AV.cells [AV.lit (Value.int IntKind.u8 0),AV.lit (Value.int IntKind.u8 0),AV.lit (Value.int IntKind.u8 0)]).all (nbB 1) = true from rfl) x hx)
  ·rw [List.eq_of_mem_replicate hx]; exact .any⟩
def abc:List AV:=[.lit (.int .u8 97),.lit (.int .u8 98),.lit (.int .u8 99)]
theorem tp (st:St):aX Go.Proofs.Try.prog n_f56 [.sl false 1 [.sl false 1 abc]] st
  (fun v st'=>∃ id c r,v = .bs id 1 0 3 c∧st'.get id = some (abc++r)∧3≤c∧∀ x ∈ r,x.NB):=by
 refine d5 hmix k_f56 rfl rfl fun Q hQ=>?_
 unfold aFun c_f56
 unfold abc
 simp (config:=KF) (disch:=omega) only [bZ,lenI,↓reduceIte,Nat.reduceEqDiff,reduceCtorEq]
 rw [f56_9w]
 refine nB 2 ?_
 simp (config:=KF) (disch:=omega) only [bZ,and_self,az,aj,bp,dy,eO,ixSV,lenI,ag,id,bw,↓reduceIte,Nat.reduceEqDiff,Nat.reduceAdd,Int.reduceLT,Int.reduceLE,reduceCtorEq,decide_false,Int.zero_add,qd]
 refine jW rfl e_f72 (grow3_calls st) rfl fun v s1 hr=>?_
 obtain ⟨c,hc,rfl,r,hr,hrl,hrn⟩:=hr
 have hcd:cellsD [.lit (.int .u8 97),.lit (.int .u8 98),.lit (.int .u8 99)] = abc:=rfl
 have hsa:aG r 0 abc = abc++r.drop 3:=setAt_zero (by rw [hrl]; exact hc)
 simp (config:=KF) (disch:=omega) only [bZ,lenI,jY,↓reduceIte,Nat.reduceEqDiff,reduceCtorEq]
 rw [f56_31w]
 refine nB 2 ?_
 simp (config:=KF) (disch:=omega) only [bZ,and_self,az,aj,bp,retI,iN,dy,eO,o_x,ixSV,al,appX,ag,srcA,jY,bw,m5,↓reduceIte,Nat.reduceEqDiff,Nat.reduceAdd,Int.reduceLT,Int.reduceLE,decide_false,eE,Int.zero_add,if_pos,Nat.mul_one,qd,hr,hcd,hsa]
 exact hQ _ _ ⟨_,c,r.drop 3,rfl,eG (gK hr),hc,fun x hx=>hrn x (List.mem_of_mem_drop hx)⟩
theorem concat_pure (st:St):aF Go.Proofs.Try.prog n_f56 [.sl false 1 [.sl false 1 abc]] st (.sl false 1 abc):=by
 refine nH ((tp ⟨[]⟩).mono ?_) (fun v hv=>?_) st
 ·rintro v s1 ⟨id,c,r,rfl,hg,hc,hr⟩
  exact Frz.bs (st:=s1) id 1 0 3 c _ hg (by simp [abc]) hc fun x hx=>by
   rw [List.drop_zero] at hx
   rcases List.mem_append.1 hx with hx | hx
   ·exact jX 1 x (List.all_eq_true.1 (show abc.all (nbB 1) = true from rfl) x hx)
   ·exact hr x hx
 ·simp only [List.mem_singleton] at hv
  subst hv
  exact jX 4 _ rfl
def primC (q:FuncId) (vs:List AV):Option AV:=if q = n_f56 then (if eqLs (eqB 9) vs [.sl false 1 [.sl false 1 abc]] = true then some (.sl false 1 abc) else none) else none
theorem primC_ok:sg Go.Proofs.Try.prog primC:=fun q vs v h=>by
 unfold primC at h
 split at h
 ·rename_i hq
  split at h
  ·rename_i he
   cases h
   rw [hq,kV (eqB_ok 9) he]
   exact ⟨e_f56,concat_pure⟩
  ·cases h
 ·cases h
theorem dp (st:St):aF Go.Proofs.Try.prog n_f8 [] st (.lit (.bool true)) :=
 x_pure hmix tabOk primC_ok 100 20 (by kernel_rfl) rfl rfl st
end Go.Fx.YtoiokbmgdcaaoaaFx

