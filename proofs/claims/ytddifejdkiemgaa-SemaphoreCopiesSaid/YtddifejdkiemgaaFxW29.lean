/- What the functions that the statement reaches compute: part 29. -/
import Derived.Test.YtddifejdkiemgaaFxW28
namespace Go.Fx.YtddifejdkiemgaaFx
open Go Go.Fx
attribute [local irreducible] aC runI a9 cd

set_option maxRecDepth 100000
set_option maxHeartbeats 8000000

section
variable {st:St} {b q mid wid g:Nat} {sz nw:Int} {H:List Int} {V:List Vt}

theorem do_rel (h:SmIs st b q mid wid sz nw H V g) (hg0:g < 900000) (t n d:Int):bz Go.Proofs.Try.prog n_f58 [.ptr b 0,rfAV sz nw H V,.agg [.lit (.int .i64 2),.lit (.int .i64 t),.lit (.int .i64 n),.lit (.int .u64 d)]] st (DoP st b q mid wid sz g):=by
  refine bB hmix k_f58 rfl rfl fun Q hQ=>?_
  unfold aFun c_f58
  have f1:=fun H V=>cz (H:=H) (V:=V)
  have f2:=fun H V=>co (H:=H) (V:=V)
  have f3:=fun V=>bL (V:=V) h.hl
  have f6:=fun V=>bW (V:=V) h.hl
  have hcn:=h.cnt
  obtain ⟨F1,F2⟩:=sRel_facts sz H V t n
  have hrr:=fun st=>rrel_calls (st:=st) h.rf t n
  have hsr:=jF h (by omega) t n
  obtain ⟨X,hX⟩:∃ X,X = sRel sz H V t n:=⟨_,rfl⟩
  rw [← hX] at F2 hrr hsr
  simp (config:=KF) (disch:=omega) only [bZ,az,ap,aw,bA,bR,au,aq,boxX,addA,aj,ci,ev_f,ar,putS,Sf.set,Sf.reg,getR,setR,ae,Sf.disAt,Sf.newLoc,look,bt,aM,aO,id,ah,aa,ag,af,al,cb,aV,aB,List.length_cons,List.length_nil,List.all_cons,List.all_nil,List.drop_zero,List.drop_succ_cons,↓reduceIte,Nat.reduceEqDiff,Nat.reduceAdd,Int.reduceEq,Bool.true_and,Bool.and_true,and_true,true_and,reduceCtorEq,Nat.zero_add,Nat.add_zero,decide_true,decide_false,f58_1e,f58_2e,f58_2l,f58_3e,f58_4e,f58_5e,f58_5l,f58_6e,f58_7e,f58_8e,f58_8l,f58_9e,f58_16e,f58_17e,f58_17l,f58_18e,f58_23e,f58_24e,f58_24l,f58_25e,f58_26e,f58_27e,f58_27l,f1,f2,f3]
  refine bE rfl e_f37 hsr rfl fun r st1 hr=>?_
  obtain ⟨v,rfl,a1,a2,a3,_⟩:=hr
  rcases a1.k with hvk | ⟨ib,ln,cap,hvk⟩
  all_goals
    rw [hvk]
    simp (config:=KF) (disch:=omega) only [bZ,cy,az,ap,aw,au,extV,aq,addA,aj,ai,ak,aA,ev_f,putS,Sf.set,Sf.reg,getR,setR,ae,Sf.disAt,look,id,ah,bS,b4,aa,bC,d5,List.length_cons,List.getElem?_cons_zero,List.getElem?_cons_succ,List.drop_zero,List.drop_succ_cons,List.take_succ_cons,↓reduceIte,Nat.reduceEqDiff,Nat.reduceAdd,Nat.reduceLeDiff,reduceCtorEq,Nat.zero_add,decide_true,f58_28e,f58_29e,f58_29l,f1,f3,f6]
    refine bE (vs:=[rfAV sz nw H V,.lit (.int .i64 t),.lit (.int .i64 n)]) (by simp only [List.map_cons,List.map_nil,List.nil_append,List.append_nil,ah,aa,bH,f1]) e_f73 (hrr _) rfl fun r st2 hr=>?_
    obtain ⟨w,rfl,c1,c2,c3,_⟩:=hr
    obtain ⟨d1,d2,d3⟩:=two_gr a1 a2 a3 c1 c3 (by omega)
    have hr:=hQ _ st2 ⟨_,_,_,_,rfl,d2,by omega,d3⟩
    have g3:=fun V=>bL (V:=V) d2.hl
    have g6:=fun V=>bW (V:=V) d2.hl
    have g7:=fun V=>dF (V:=V) d2.hl
    rw [hvk] at d1
    rcases c1.k with rfl | ⟨ib',ln',cap',rfl⟩
    all_goals
      simp (config:=KF) (disch:=omega) only [bZ,List.contains_nil,List.contains_cons,Nat.reduceBEq,Bool.or_false,b5,cB,bQ,iX,bp,cy,aw,bA,aH,extV,aq,boxX,aU,aj,ai,ak,aA,ev_f,ar,aG,putS,Sf.set,Sf.reg,getR,setR,ae,Sf.disAt,Sf.newLoc,Sf.setLoc,look,bt,aM,bu,id,ah,bS,b4,aa,bC,cq,d5,ag,af,al,aF,aV,aB,cC,gY,List.length_cons,List.length_nil,List.getElem?_cons_zero,List.getElem?_cons_succ,List.all_cons,List.drop_zero,List.take_succ_cons,List.set_cons_zero,List.set_cons_succ,↓reduceIte,Nat.reduceEqDiff,Nat.reduceAdd,Nat.reduceLeDiff,Bool.true_and,Bool.and_true,and_true,true_and,Nat.zero_add,or_false,decide_true,Bool.false_eq_true,bh,am,f58_30e,f58_31e,f58_31h,f58_31l,f1,f2,g3,g6,g7]
      refine kQ rfl e_f54 d1 rfl ?_
      simp (config:=KF) (disch:=omega) only [bZ,List.contains_nil,List.contains_cons,Bool.or_false,ksB,b6,cF,cU,cp,dq,cX,nstB,cV,cO,b5,kP,cB,oX,dR,mL,ga,ff,cN,fL,bp,g9,jz,ca,retI,resI,resL,AI.dst,aw,ba,aj,ai,ci,ak,aA,putS,Sf.set,Sf.reg,getR,setR,ae,Sf.disAt,Sf.setLoc,look,aM,ah,aa,ag,af,al,bO,aR,List.length_cons,List.length_nil,List.all_cons,List.all_nil,List.nil_append,List.drop_zero,List.take_succ_cons,↓reduceIte,Nat.reduceEqDiff,Nat.reduceAdd,Nat.reduceLeDiff,Bool.true_and,Bool.and_true,and_true,true_and,Nat.zero_add,or_false,decide_true,Bool.not_false,f1,f2,g3,g6,beq_self_eq_true]
      exact hr

theorem do_can (h:SmIs st b q mid wid sz nw H V g) (hg0:g < 900000) (t n d:Int):bz Go.Proofs.Try.prog n_f58 [.ptr b 0,rfAV sz nw H V,.agg [.lit (.int .i64 3),.lit (.int .i64 t),.lit (.int .i64 n),.lit (.int .u64 d)]] st (DoP st b q mid wid sz g):=by
  refine bB hmix k_f58 rfl rfl fun Q hQ=>?_
  unfold aFun c_f58
  have f1:=fun H V=>cz (H:=H) (V:=V)
  have f2:=fun H V=>co (H:=H) (V:=V)
  have f3:=fun V=>bL (V:=V) h.hl
  have f6:=fun V=>bW (V:=V) h.hl
  have hcn:=h.cnt
  obtain ⟨F1,F2⟩:=sCan_facts sz H V t
  have hrr:=fun st=>rcan_calls (st:=st) h.rf t
  have hsr:=scan_calls h (by omega) t
  obtain ⟨X,hX⟩:∃ X,X = sCan sz H V t:=⟨_,rfl⟩
  rw [← hX] at F2 hrr hsr
  simp (config:=KF) (disch:=omega) only [bZ,az,ap,aw,bA,bR,au,aq,boxX,addA,aj,ci,ev_f,ar,putS,Sf.set,Sf.reg,getR,setR,ae,Sf.disAt,Sf.newLoc,look,bt,aM,aO,id,ah,aa,ag,af,al,cb,aV,aB,List.length_cons,List.length_nil,List.all_cons,List.all_nil,List.drop_zero,List.drop_succ_cons,↓reduceIte,Nat.reduceEqDiff,Nat.reduceAdd,Int.reduceEq,Bool.true_and,Bool.and_true,and_true,true_and,reduceCtorEq,Nat.zero_add,Nat.add_zero,decide_true,decide_false,f58_1e,f58_2e,f58_2l,f58_3e,f58_4e,f58_5e,f58_5l,f58_6e,f58_7e,f58_8e,f58_8l,f58_9e,f58_16e,f58_17e,f58_17l,f58_18e,f58_23e,f58_24e,f58_24l,f58_25e,f58_32e,f58_33e,f58_33l,f58_34e,f58_35e,f58_36e,f58_36l,f1,f2,f3]
  refine bE rfl e_f38 hsr rfl fun r st1 hr=>?_
  obtain ⟨v,rfl,a1,a2,a3,_⟩:=hr
  rcases a1.k with hvk | ⟨ib,ln,cap,hvk⟩
  all_goals
    rw [hvk]
    simp (config:=KF) (disch:=omega) only [bZ,cy,az,ap,aw,au,extV,aq,addA,aj,ai,ak,aA,ev_f,putS,Sf.set,Sf.reg,getR,setR,ae,Sf.disAt,look,id,ah,bS,b4,aa,bC,d5,List.length_cons,List.getElem?_cons_zero,List.getElem?_cons_succ,List.drop_zero,List.drop_succ_cons,List.take_succ_cons,↓reduceIte,Nat.reduceEqDiff,Nat.reduceAdd,Nat.reduceLeDiff,reduceCtorEq,Nat.zero_add,decide_true,f58_37e,f58_38e,f58_38l,f1,f3,f6]
    refine bE (vs:=[rfAV sz nw H V,.lit (.int .i64 t)]) (by simp only [List.map_cons,List.map_nil,List.nil_append,List.append_nil,ah,aa,bH,f1]) e_f74 (hrr _) rfl fun r st2 hr=>?_
    obtain ⟨w,rfl,c1,c2,c3,_⟩:=hr
    obtain ⟨d1,d2,d3⟩:=two_gr a1 a2 a3 c1 c3 (by omega)
    have hr:=hQ _ st2 ⟨_,_,_,_,rfl,d2,by omega,d3⟩
    have g3:=fun V=>bL (V:=V) d2.hl
    have g6:=fun V=>bW (V:=V) d2.hl
    have g7:=fun V=>dF (V:=V) d2.hl
    rw [hvk] at d1
    rcases c1.k with rfl | ⟨ib',ln',cap',rfl⟩
    all_goals
      simp (config:=KF) (disch:=omega) only [bZ,List.contains_nil,List.contains_cons,Nat.reduceBEq,Bool.or_false,b5,cB,bQ,iX,bp,cy,aw,bA,aH,extV,aq,boxX,aU,aj,ai,ak,aA,ev_f,ar,aG,putS,Sf.set,Sf.reg,getR,setR,ae,Sf.disAt,Sf.newLoc,Sf.setLoc,look,bt,aM,bu,id,ah,bS,b4,aa,bC,cq,d5,ag,af,al,aF,aV,aB,cC,gY,List.length_cons,List.length_nil,List.getElem?_cons_zero,List.getElem?_cons_succ,List.all_cons,List.drop_zero,List.take_succ_cons,List.set_cons_zero,List.set_cons_succ,↓reduceIte,Nat.reduceEqDiff,Nat.reduceAdd,Nat.reduceLeDiff,Bool.true_and,Bool.and_true,and_true,true_and,Nat.zero_add,or_false,decide_true,Bool.false_eq_true,bh,am,f58_39e,f58_40e,f58_40h,f58_40l,f1,f2,g3,g6,g7]
      refine kQ rfl e_f54 d1 rfl ?_
      simp (config:=KF) (disch:=omega) only [bZ,List.contains_nil,List.contains_cons,Bool.or_false,ksB,b6,cF,cU,cp,dq,cX,nstB,cV,cO,b5,kP,cB,oX,dR,mL,ga,ff,cN,fL,bp,g9,jz,ca,retI,resI,resL,AI.dst,aw,ba,aj,ai,ci,ak,aA,putS,Sf.set,Sf.reg,getR,setR,ae,Sf.disAt,Sf.setLoc,look,aM,ah,aa,ag,af,al,bO,aR,List.length_cons,List.length_nil,List.all_cons,List.all_nil,List.nil_append,List.drop_zero,List.take_succ_cons,↓reduceIte,Nat.reduceEqDiff,Nat.reduceAdd,Nat.reduceLeDiff,Bool.true_and,Bool.and_true,and_true,true_and,Nat.zero_add,or_false,decide_true,Bool.not_false,f1,f2,g3,g6,beq_self_eq_true]
      exact hr

theorem do_adv (h:SmIs st b q mid wid sz nw H V g) (hg0:g < 900000) (w t n d:Int) (w0:¬ w = 0) (w1:¬ w = 1) (w2:¬ w = 2) (w3:¬ w = 3) (hd0:0≤d) (hd:d≤nev):bz Go.Proofs.Try.prog n_f58 [.ptr b 0,rfAV sz nw H V,.agg [.lit (.int .i64 w),.lit (.int .i64 t),.lit (.int .i64 n),.lit (.int .u64 d)]] st (DoP st b q mid wid sz g):=by
  refine bB hmix k_f58 rfl rfl fun Q hQ=>?_
  unfold aFun c_f58
  have f1:=fun H V=>cz (H:=H) (V:=V)
  have f2:=fun H V=>co (H:=H) (V:=V)
  have f3:=fun V=>bL (V:=V) h.hl
  have f6:=fun V=>bW (V:=V) h.hl
  have hcn:=h.cnt
  obtain ⟨F1,F2⟩:=sAdv_facts sz nw H V d hd
  have hrr:=fun st=>radv_calls (st:=st) h.rf d hd0 hd
  have hsr:=jA h (by omega) d hd0 hd
  obtain ⟨X,hX⟩:∃ X,X = (sAdv sz nw H V d).1:=⟨_,rfl⟩
  rw [← hX] at F2 hrr hsr
  simp (config:=KF) (disch:=omega) only [bZ,aJ,az,ap,aw,bA,bR,au,aq,boxX,addA,aj,ci,ev_f,ar,putS,Sf.set,Sf.reg,getR,setR,ae,Sf.disAt,Sf.newLoc,look,bt,aM,aO,id,ah,aa,ag,af,al,cb,aV,aB,List.length_cons,List.length_nil,List.all_cons,List.all_nil,List.drop_zero,List.drop_succ_cons,↓reduceIte,Nat.reduceEqDiff,Nat.reduceAdd,Bool.true_and,Bool.and_true,and_true,true_and,reduceCtorEq,Nat.zero_add,Nat.add_zero,decide_false,f58_1e,f58_2e,f58_2l,f58_3e,f58_4e,f58_5e,f58_5l,f58_6e,f58_7e,f58_8e,f58_8l,f58_9e,f58_16e,f58_17e,f58_17l,f58_18e,f58_23e,f58_24e,f58_24l,f58_25e,f58_32e,f58_33e,f58_33l,f58_34e,f58_41e,f58_42e,f58_42l,f1,f2,f3,w0,w1,w2,w3]
  refine bE rfl e_f39 hsr rfl fun r st1 hr=>?_
  obtain ⟨v,rfl,a1,a2,a3,_⟩:=hr
  rcases a1.k with hvk | ⟨ib,ln,cap,hvk⟩
  all_goals
    rw [hvk]
    simp (config:=KF) (disch:=omega) only [bZ,cy,az,ap,aw,au,extV,aq,addA,aj,ai,ak,aA,ev_f,putS,Sf.set,Sf.reg,getR,setR,ae,Sf.disAt,look,id,ah,bS,b4,aa,bC,d5,List.length_cons,List.getElem?_cons_zero,List.getElem?_cons_succ,List.drop_zero,List.drop_succ_cons,List.take_succ_cons,↓reduceIte,Nat.reduceEqDiff,Nat.reduceAdd,Nat.reduceLeDiff,reduceCtorEq,Nat.zero_add,decide_true,f58_43e,f58_44e,f58_44l,f1,f3,f6]
    refine bE (vs:=[rfAV sz nw H V,.lit (.int .u64 d)]) (by simp only [List.map_cons,List.map_nil,List.nil_append,List.append_nil,ah,aa,bH,f1]) e_f75 (hrr _) rfl fun r st2 hr=>?_
    obtain ⟨w,rfl,c1,c2,c3,_⟩:=hr
    obtain ⟨d1,d2,d3⟩:=two_gr a1 a2 a3 c1 c3 (by omega)
    have hr:=hQ _ st2 ⟨_,_,_,_,rfl,d2,by omega,d3⟩
    have g3:=fun V=>bL (V:=V) d2.hl
    have g6:=fun V=>bW (V:=V) d2.hl
    have g7:=fun V=>dF (V:=V) d2.hl
    rw [hvk] at d1
    rcases c1.k with rfl | ⟨ib',ln',cap',rfl⟩
    all_goals
      simp (config:=KF) (disch:=omega) only [bZ,List.contains_nil,List.contains_cons,Nat.reduceBEq,Bool.or_false,b5,cB,bQ,iX,bp,cy,aw,bA,aH,extV,aq,boxX,aU,aj,ai,ak,aA,ev_f,ar,aG,putS,Sf.set,Sf.reg,getR,setR,ae,Sf.disAt,Sf.newLoc,Sf.setLoc,look,bt,aM,bu,id,ah,bS,b4,aa,bC,cq,d5,ag,af,al,aF,aV,aB,cC,gY,List.length_cons,List.length_nil,List.getElem?_cons_zero,List.getElem?_cons_succ,List.all_cons,List.drop_zero,List.take_succ_cons,List.set_cons_zero,List.set_cons_succ,↓reduceIte,Nat.reduceEqDiff,Nat.reduceAdd,Nat.reduceLeDiff,Bool.true_and,Bool.and_true,and_true,true_and,Nat.zero_add,or_false,decide_true,Bool.false_eq_true,bh,am,f58_45e,f58_46e,f58_46h,f58_46l,f1,f2,g3,g6,g7]
      refine kQ rfl e_f54 d1 rfl ?_
      simp (config:=KF) (disch:=omega) only [bZ,List.contains_nil,List.contains_cons,Bool.or_false,ksB,b6,cF,cU,cp,dq,cX,nstB,cV,cO,b5,kP,cB,oX,dR,mL,ga,ff,cN,fL,bp,g9,jz,retI,resI,resL,AI.dst,aw,ba,aj,ai,ci,ak,aA,putS,Sf.set,Sf.reg,getR,setR,ae,Sf.disAt,Sf.setLoc,look,aM,ah,aa,ag,af,al,bO,aR,List.length_cons,List.length_nil,List.all_cons,List.all_nil,List.nil_append,List.drop_zero,List.take_succ_cons,↓reduceIte,Nat.reduceEqDiff,Nat.reduceAdd,Nat.reduceLeDiff,Bool.true_and,Bool.and_true,and_true,true_and,Nat.zero_add,or_false,decide_true,Bool.not_false,f1,f2,g3,g6,beq_self_eq_true]
      exact hr

theorem do_calls (h:SmIs st b q mid wid sz nw H V g) (hg0:g < 900000) (w t n d:Int) (hd0:0≤d) (hd:d≤nev):bz Go.Proofs.Try.prog n_f58 [.ptr b 0,rfAV sz nw H V,.agg [.lit (.int .i64 w),.lit (.int .i64 t),.lit (.int .i64 n),.lit (.int .u64 d)]] st (DoP st b q mid wid sz g):=by
  by_cases w0:w = 0
  · subst w0; exact do_acq h hg0 t n d hd
  by_cases w1:w = 1
  · subst w1; exact do_try h t n d
  by_cases w2:w = 2
  · subst w2; exact do_rel h hg0 t n d
  by_cases w3:w = 3
  · subst w3; exact do_can h hg0 t n d
  · exact do_adv h hg0 w t n d w0 w1 w2 w3 hd0 hd

/-- Boxes but some are as they were, where there is one. -/
def GSub (st st':St) (S:List Nat):Prop:=st.boxes.length≤st'.boxes.length∧∀ i x,i ∉ S→st.boxes[i]? = some (some x)→st'.boxes[i]? = some (some x)
theorem GSub.refl (st:St) (S:List Nat):GSub st st S:=⟨Nat.le_refl _,fun _ _ _ h=>h⟩
theorem GSub.trans {a b c:St} {S:List Nat} (h:GSub a b S) (k:GSub b c S):GSub a c S:=⟨Nat.le_trans h.1 k.1,fun i x hn hx=>k.2 i x hn (h.2 i x hn hx)⟩
theorem GFr.gsub {a b:St} {S:List Nat} (h:GFr a b S):GSub a b S:=⟨h.1,fun i x hn hx=>(h.2 i (List.getElem?_eq_some_iff.1 hx).1 hn).trans hx⟩
theorem sub_gsub {a b:St} (h:St.sub a b) (hl:a.boxes.length≤b.boxes.length) (S:List Nat):GSub a b S:=⟨hl,fun i x _ hx=>h i x hx⟩

/-- Calls of both, one after the other. -/
theorem iM (h0:SmIs st b q mid wid sz nw H V g) (l:List St5) (hl:l.length≤40) (hg0:g + l.length < 900000) (hd:∀ a ∈ l,0≤a.2.2.2∧a.2.2.2≤nev):bz Go.Proofs.Try.prog n_f33 [.ptr b 0,rfAV sz nw H V,ssAV l] st (fun r st' =>
    ∃ nw' H' V' g',r = .tup [rfAV sz nw' H' V',.lit (.bool true)]∧SmIs st' b q mid wid sz nw' H' V' g'∧g'≤g + l.length∧GSub st st' [b,q,mid,wid]):=by
  refine bB hmix k_f33 rfl rfl fun Q hQ=>?_
  unfold aFun c_f33
  have f1:=fun H V=>cz (H:=H) (V:=V)
  have f2:=fun H V=>co (H:=H) (V:=V)
  have f3:=fun V=>bL (V:=V) h0.hl
  have hml:(l.map saAV).length = l.length:=by simp
  obtain ⟨Z,hZ⟩:∃ Z,Z = hR (List.replicate 64 0) []:=⟨_,rfl⟩
  have hZl:Z.length = 65:=by rw [hZ]; exact bL (by simp)
  have fz:∀ (H:List Int) (V:List Vt) (a b:AV),H.length = 64→cG (a::b::Z) 2 (hR H V) = a::b::hR H V:=fun H V a b hl=>by rw [hZ]; exact eR (by simp) hl a b
  have hst:aC Go.Proofs.Try.prog id false f33_7 ⟨[(0,.ptr b 0),(2,ssAV l),(4,.lptr 4 0),(6,.lptr 6 0),(8,.lit (.int .i64 0))],[(4,rfC sz nw H V),(6,.lit (.int .i64 0)::.lit (.int .u64 0)::Z)]⟩ st (fF 0 (seqQ (aC Go.Proofs.Try.prog id false f33_24) (retQ [RI.cell 6 (some 67),RI.tmp 7] Q))):=by
    rw [f33_7w]
    refine dh (A:=Nat×Int×List Int×List Vt×Nat×St) (fun a=>l.length - a.1) (fun a=>⟨[(0,.ptr b 0),(2,ssAV l),(4,.lptr 4 0),(6,.lptr 6 0),(8,.lit (.int .i64 (a.1:Nat)))],[(4,rfC sz a.2.1 a.2.2.1 a.2.2.2.1),(6,.lit (.int .i64 0)::.lit (.int .u64 0)::Z)]⟩) (fun a=>a.2.2.2.2.2)
      (fun a=>a.1≤l.length∧SmIs a.2.2.2.2.2 b q mid wid sz a.2.1 a.2.2.1 a.2.2.2.1 a.2.2.2.2.1∧a.2.2.2.2.1≤g + a.1∧GSub st a.2.2.2.2.2 [b,q,mid,wid]) (0,nw,H,V,g,st) ⟨by simp,h0,by simp,.refl _ _⟩ (Sf.le_refl _) rfl ?_
    rintro ⟨i,nw1,H1,V1,g1,st1⟩ ⟨h1,h2,h3,h4⟩ K hK hKe hKr
    simp only at h1 h2 h3 h4
    dsimp only
    have f3:=fun V=>bL (V:=V) h2.hl
    have f6:=fun V=>bW (V:=V) h2.hl
    by_cases hi:i < l.length
    · obtain ⟨⟨w,t,n,d⟩,hw⟩:∃ a,a = l[i]:=⟨_,rfl⟩
      have hdd:=hd l[i] (List.getElem_mem hi)
      rw [← hw] at hdd
      have e1:(l.map saAV).getD i .any = .agg [.lit (.int .i64 w),.lit (.int .i64 t),.lit (.int .i64 n),.lit (.int .u64 d)]:=by simp [List.getD,hi,← hw,saAV]
      have hdo:=do_calls h2 (by omega) w t n d hdd.1 hdd.2
      have hnx:∀ nw' H' V' g' st',SmIs st' b q mid wid sz nw' H' V' g'→g'≤g1 + 1→GSub st1 st' [b,q,mid,wid]→K .normal ⟨[(0,.ptr b 0),(2,ssAV l),(4,.lptr 4 0),(6,.lptr 6 0),(8,.lit (.int .i64 ((i:Int) + 1)))],[(4,rfC sz nw' H' V'),(6,.lit (.int .i64 0)::.lit (.int .u64 0)::Z)]⟩ st':=fun nw' H' V' g' st' a1 a2 a3 =>
        hK (i + 1,nw',H',V',g',st') _ ⟨by simp only; omega,a1,by simp only; omega,h4.trans a3⟩ (by simp only; omega) (Sf.le_refl _)
      unfold ssAV at hnx ⊢
      simp (config:=KF) (disch:=omega) only [bZ,ce,lenI,bd,putS,Sf.set,Sf.reg,getR,setR,ae,look,br,↓reduceIte,Nat.reduceEqDiff,Bool.true_and,true_and,reduceCtorEq,aS,f33_8e,f33_9e,f33_10e,f33_10l,f33_11e,f33_12e,f33_13e,f33_14e,f33_15e,f33_15h,f33_15p,f33_15l,hml]
      refine draw_m ⟨[]⟩ (St.sub_nil _) ?_
      simp (config:=KF) (disch:=omega) only [bZ,List.contains_nil,List.contains_cons,Nat.reduceBEq,Bool.or_false,oq,mM,m_val,im,mm_ixS,ia,atM_eq,jj,dropP,dropQ,mo,ixSV,aq,ixA,aj,ai,ak,aA,ev_f,putS,Sf.set,Sf.reg,getR,setR,look,bu,id,br,ah,aa,ag,List.length_cons,List.length_nil,List.append_nil,List.nil_append,List.cons_append,List.drop_zero,List.take_succ_cons,List.take_zero,Int.toNat_natCast,↓reduceIte,Nat.reduceEqDiff,Nat.reduceAdd,Nat.reduceLeDiff,reduceCtorEq,Nat.zero_add,or_false,decide_true,Bool.false_eq_true,bD,bK,hml,e1,f1,f3,f6]
      refine call_m (vs:=[.ptr b 0,rfAV sz nw1 H1 V1,.agg [.lit (.int .i64 w),.lit (.int .i64 t),.lit (.int .i64 n),.lit (.int .u64 d)]]) (by simp only [List.map_cons,List.map_nil,List.nil_append,List.append_nil,ah,aa,bH,eP,f1]) e_f58 hdo rfl ?_
      simp (config:=KF) (disch:=omega) only [List.contains_nil,List.contains_cons,Nat.reduceBEq,Bool.or_false,Bool.or_true,ksB,b6,cF,cU,cp,nstB,cV,hm_nil,hm_hole,hm_none,mP,hm_new,mm_newL,AI.dst,putS,putN,Sf.set,setR,List.all_cons,List.all_nil,List.nil_append,List.cons_append,↓reduceIte,Nat.reduceEqDiff,Bool.true_and,Bool.and_true,and_true,true_and,reduceCtorEq,or_true,or_false,Bool.not_false]
      rintro r st2 ⟨nw',H',V',g',rfl,a1,a2,a3⟩
      refine ⟨St.sub_nil _,?_⟩
      have g3:=fun V=>bL (V:=V) a1.hl
      have g6:=fun V=>bW (V:=V) a1.hl
      have g7:=fun V=>dF (V:=V) a1.hl
      have g8:=fun V V' a b=>eR (V:=V) (V':=V') h2.hl a1.hl a b
      simp (config:=KF) (disch:=omega) only [bZ,List.contains_nil,List.contains_cons,Nat.reduceBEq,Bool.or_false,Bool.or_true,ksB,b6,cF,cU,cp,dq,cX,headNst_eq,nstB,cV,de,Option.getD_some,nst_beq,oq,mM,m_val,im,mm_ext,mO,kR,compM_t,compM_tn,compM_f,mQ,o0,m_new,m_nst,mm_newL,mm_store,and_self,ao,AI.dst,aD,o_un,ap,aw,au,extV,aq,aj,ai,unA,ak,aA,ev_f,putS,Sf.set,Sf.reg,getR,setR,ae,Sf.disAt,Sf.newLoc,look,bt,aM,id,ah,bS,aa,bC,cq,ag,af,al,iI,aF,cb,aV,ob,eQ,aB,cC,List.length_cons,List.length_nil,List.getElem?_cons_zero,List.getElem?_cons_succ,List.all_cons,List.all_nil,List.nil_append,List.cons_append,List.drop_zero,List.take_succ_cons,↓reduceIte,Nat.reduceEqDiff,Nat.reduceAdd,Nat.reduceLeDiff,Bool.true_and,Bool.and_true,and_true,true_and,reduceCtorEq,Nat.zero_add,or_true,or_false,decide_true,Bool.not_true,Bool.not_false,Bool.false_eq_true,f33_16e,f33_17e,f33_18e,f33_18l,f1,f2,g3,g6]
      refine bE (vs:=[.ptr b 0,rfAV sz nw' H' V']) (by simp only [List.map_cons,List.map_nil,List.nil_append,List.append_nil,ah,aa,bH,eP,f1]) e_f32 (gc a1) rfl fun r st3 hr=>?_
      obtain ⟨rfl,b1,b2⟩:=hr
      simp (config:=KF) (disch:=omega) only [bZ,aJ,ao,AI.dst,aD,aI,o_un,ap,aw,aH,aW,aq,boxX,aU,aj,ai,unA,cZ,ak,aA,ar,aG,putS,Sf.set,Sf.reg,getR,setR,ae,Sf.disAt,Sf.setLoc,look,aM,ah,aa,ag,af,al,List.length_cons,List.all_cons,List.drop_zero,List.take_succ_cons,List.set_cons_zero,List.set_cons_succ,↓reduceIte,Nat.reduceEqDiff,Nat.reduceAdd,Nat.reduceLeDiff,Bool.true_and,Bool.and_true,and_true,true_and,reduceCtorEq,Nat.zero_add,decide_true,Bool.not_true,Bool.false_eq_true,IntWalk.i64_in,cP,am,f33_19e,f33_22e,f33_22l,f33_23e,f33_23l,f1,f2,f3,g3,g6,g8]
      exact hnx nw' H' V' g' st3 (a1.sub b1) a2 (a3.gsub.trans (sub_gsub b1 b2 _))
    · have hie:i = l.length:=by omega
      have hr:=hQ _ st1 ⟨_,_,_,_,rfl,h2,by omega,h4⟩
      have g7:=fun V a b=>fz H1 V a b h2.hl
      unfold ssAV
      simp (config:=KF) (disch:=omega) only [bZ,b8,cL,ce,lenI,bd,putS,Sf.set,Sf.reg,getR,setR,ae,look,br,↓reduceIte,Nat.reduceEqDiff,reduceCtorEq,a8,f33_8e,f33_9e,f33_10e,f33_10l,f33_11e,hml]
      refine hKe _ _ _ ?_
      simp (config:=KF) (disch:=omega) only [bZ,bM,retI,resI,resL,ap,aH,aq,boxX,aU,aj,ai,ak,aA,ar,aG,putS,Sf.set,Sf.reg,getR,setR,ae,Sf.disAt,Sf.setLoc,look,aM,ah,aa,ag,af,al,bO,aR,List.length_cons,List.all_cons,List.all_nil,List.drop_zero,List.take_succ_cons,List.set_cons_zero,List.set_cons_succ,↓reduceIte,Nat.reduceEqDiff,Nat.reduceAdd,Nat.reduceLeDiff,Bool.true_and,Bool.and_true,and_true,true_and,Nat.zero_add,decide_true,bh,am,f33_24e,f33_25e,f33_25l,f1,f2,f3,f6,g7,hZl]
      exact hr
  unfold ssAV at hst ⊢
  rw [hZ,ow] at hst
  simp (config:=KF) (disch:=omega) only [bZ,bA,bR,boxX,ar,putS,Sf.set,Sf.reg,getR,setR,ae,Sf.newLoc,look,bt,aM,aO,br,ah,aa,ag,af,al,cb,aV,eQ,aB,List.length_cons,List.all_cons,↓reduceIte,Nat.reduceEqDiff,Nat.reduceAdd,Bool.true_and,Bool.and_true,and_true,true_and,reduceCtorEq,Nat.zero_add,f33_1e,f33_2e,f33_2l,f33_3e,f33_4e,f33_5e,f33_5l,f33_6e,f1,f2,f3]
  exact hst
end
end Go.Fx.YtddifejdkiemgaaFx

