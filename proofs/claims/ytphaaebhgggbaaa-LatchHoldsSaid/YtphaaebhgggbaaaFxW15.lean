/- What the functions that the statement reaches compute: part 15. -/
import Derived.Test.YtphaaebhgggbaaaFxW14
namespace Go.Fx.YtphaaebhgggbaaaFx
open Go Go.Fx
attribute [local irreducible] aC runI bD cS

set_option maxRecDepth 100000
set_option maxHeartbeats 8000000

/-! The parts of a round of LatchHolds: printed by wip/dev/gen_lt14.py. -/
section
variable {st:St} {p:Int} {l:List Ac} {b ob cb:Nat} {x ox cx cy:Ln} {u rr tt:Int} {T:List Int} {W:List Int} {i:Nat} {g:Nat} {w t n:Int} {s:Bool}
theorem holds_a (h:BaIs st b x p u T g) (hg0:g < 1000000) (hu:u < 1000000) {Q:Exit→Sf→St→Prop}
    (hQ:∀ st' g',BaIs st' b x p (baDo p u T (w.tmod 2,t,0,false)).1.1 (baDo p u T (w.tmod 2,t,0,false)).1.2 g'→g'≤g + 1→Oth st st' (b::x.ids) →
      aC Go.Proofs.Try.prog id false f3_55 ⟨[(0,.lit (.int .i64 p)),(1,.sl false 4 (l.map acAV)),(5,.ptr b 0),(7,.ptr ob 0),(8,.ptr cb 0),(9,.lit (.int .i64 (rr))),(10,.lit (.int .i64 ((baDo p u T (w.tmod 2,t,0,false)).1.1))),(11,.sl false 1 (ints (W))),(12,.lit (.int .i64 (i:Nat))),(13,.lptr 13 0),(97,.lit (.bool false))],[(13,[.lit (.int .i64 w),.lit (.int .i64 t),.lit (.int .i64 n),.lit (.bool s)])]⟩ st' Q) :
    aC Go.Proofs.Try.prog id false f3_36 ⟨[(0,.lit (.int .i64 p)),(1,.sl false 4 (l.map acAV)),(5,.ptr b 0),(7,.ptr ob 0),(8,.ptr cb 0),(9,.lit (.int .i64 (rr))),(10,.lit (.int .i64 (u))),(11,.sl false 1 (ints (W))),(12,.lit (.int .i64 (i:Nat))),(13,.lptr 13 0)],[(13,[.lit (.int .i64 w),.lit (.int .i64 t),.lit (.int .i64 n),.lit (.bool s)])]⟩ st Q:=by
  have hb:=mg h hg0 hu (w.tmod 2,t,0,false)
  obtain ⟨f1,f2⟩:=mo (u:=u) (w.tmod 2,t,0,false) h.few
  have hub:=h.ub
  have hpb:=h.pb
  generalize (baDo p u T (w.tmod 2,t,0,false)).1.1 = u' at *
  generalize (baDo p u T (w.tmod 2,t,0,false)).1.2 = T' at *
  generalize (baDo p u T (w.tmod 2,t,0,false)).2 = R at *
  obtain ⟨r1,r2,r3,r4⟩:=R
  simp only at f1 f2
  obtain ⟨w1,w2,w3,w4,w5,w6,w7⟩:=ci r3
  simp (config:=KF) (disch:=omega) only [bZ,and_self,ag,af,dm,ai,am,bstV,addA,ae,bL,aQ,ev_f,putS,Sf.set,Sf.reg,getR,setR,look,id,ak,ap,ah,ao,List.length_cons,List.length_nil,List.getElem?_cons_zero,List.getElem?_cons_succ,List.all_cons,List.all_nil,List.drop_zero,List.drop_succ_cons,List.set_cons_zero,List.set_cons_succ,↓reduceIte,Nat.reduceEqDiff,Nat.reduceAdd,Nat.reduceLeDiff,Bool.and_true,and_true,reduceCtorEq,Nat.zero_add,Nat.add_zero,l5,aD,aq,f3_36e,f3_37e,f3_38e,f3_38l]
  refine aY rfl e_f13 hb rfl fun r st1 hr=>?_
  obtain ⟨g',rfl,h1,h2,h3⟩:=hr
  have ht:=kK h1
  have hw:=bawait_pure h1
  have hub1:=h1.ub
  have hfew:=h1.few
  cases r2 with
  | true =>
    obtain ⟨a1,a2,a3⟩:=f1 rfl
    subst a2
    subst a3
    rcases eA r3 with ⟨e,hz⟩ | ⟨e,hz⟩
    all_goals
      have li:=e6 r3
      try simp only [hz,List.length_nil] at a1
      simp (config:=KF) (disch:=omega) only [bZ,aj,AI.dst,aw,ag,af,bd,al,cw,bp,ai,am,boxX,bE,lenI,addA,ae,cV,bW,ev_f,aM,bg,putS,Sf.set,Sf.reg,getR,setR,aa,Sf.disAt,Sf.newLoc,Sf.setLoc,look,cm,bH,id,ar,aF,au,gK,ap,ah,eS,ao,cF,bF,br,d6,bu,List.length_cons,List.length_nil,List.all_cons,List.all_nil,List.drop_zero,List.drop_succ_cons,List.set_cons_zero,List.set_cons_succ,↓reduceIte,Nat.reduceEqDiff,Nat.reduceAdd,Nat.reduceLeDiff,Bool.true_and,Bool.and_true,and_true,true_and,reduceCtorEq,Nat.zero_add,Bool.false_eq_true,a9,IntWalk.i64_in,cL,Int.zero_add,aD,aq,f3_39e,f3_40e,f3_40l,f3_41e,f3_42e,f3_43e,f3_43l,f3_44e,f3_45e,f3_45l,rsAV,e,li]
      refine aE rfl e_f14 hw rfl ?_
      simp (config:=KF) (disch:=omega) only [bZ,aj,AI.dst,aw,aK,ai,aG,bW,ev_f,putS,Sf.set,Sf.reg,getR,setR,aa,look,id,List.length_nil,Int.cast_ofNat_Int,↓reduceIte,Nat.reduceEqDiff,reduceCtorEq,not_true_eq_false,decide_false,Bool.false_eq_true,f3_46e,f3_49e,f3_50e,f3_51e,f3_51l]
      refine aE rfl e_f15 ht rfl ?_
      simp (config:=KF) (disch:=omega) only [bZ,aj,AI.dst,aw,ai,bW,ev_f,putS,Sf.set,Sf.reg,getR,setR,id,↓reduceIte,Nat.reduceEqDiff,reduceCtorEq,not_true_eq_false,decide_false,Bool.false_eq_true]
      refine aE rfl e_f14 hw rfl ?_
      simp (config:=KF) (disch:=omega) only [bZ,aj,AI.dst,aw,aK,aG,gV,putS,Sf.set,Sf.reg,getR,setR,aa,look,List.length_nil,Int.cast_ofNat_Int,↓reduceIte,Nat.reduceEqDiff,reduceCtorEq,Bool.false_eq_true,bK,f3_52e]
      exact hQ _ _ h1 h2 h3
  | false =>
    have a1:=f2 rfl
    subst a1
    simp (config:=KF) (disch:=omega) only [bZ,ag,af,cw,bp,ai,am,boxX,bE,addA,ae,ev_f,aM,bg,putS,Sf.set,Sf.reg,getR,setR,aa,Sf.disAt,Sf.newLoc,Sf.setLoc,look,cm,bH,id,aF,au,ap,ah,ao,cF,bF,br,d6,bu,List.length_cons,List.length_nil,List.all_cons,List.all_nil,List.drop_zero,List.drop_succ_cons,List.set_cons_zero,List.set_cons_succ,↓reduceIte,Nat.reduceEqDiff,Nat.reduceAdd,Nat.reduceLeDiff,Bool.true_and,Bool.and_true,and_true,true_and,reduceCtorEq,Nat.zero_add,aD,aq,f3_39e,f3_40e,f3_40l,f3_41e,f3_49e,f3_50e,f3_51e,f3_51l,rsAV,w2,w4]
    refine aE rfl e_f15 ht rfl ?_
    simp (config:=KF) (disch:=omega) only [bZ,aj,AI.dst,aw,ai,bW,ev_f,putS,Sf.set,Sf.reg,getR,setR,id,↓reduceIte,Nat.reduceEqDiff,reduceCtorEq,not_true_eq_false,decide_false,Bool.false_eq_true]
    refine aE rfl e_f14 hw rfl ?_
    simp (config:=KF) (disch:=omega) only [bZ,aj,AI.dst,aw,aK,aG,gV,putS,Sf.set,Sf.reg,getR,setR,aa,look,↓reduceIte,Nat.reduceEqDiff,reduceCtorEq,Bool.false_eq_true,bK,f3_52e]
    exact hQ _ _ h1 h2 h3
theorem holds_c {o:Int} {d:Bool} (h:OwIs st ob ox (.lit (.bool d)) o T g) (hg0:g < 1000000) (hd:d = true→o < 0) {Q:Exit→Sf→St→Prop}
    (hQ:∀ st' g',OwIs st' ob ox (.lit (.bool (onDo o T d (w.tmod 3,t,0,s)).1.2.2)) (onDo o T d (w.tmod 3,t,0,s)).1.1 (onDo o T d (w.tmod 3,t,0,s)).1.2.1 g'→((onDo o T d (w.tmod 3,t,0,s)).1.2.2 = true→(onDo o T d (w.tmod 3,t,0,s)).1.1 < 0)→g'≤g + 1→Oth st st' (ob::ox.ids) →
      aC Go.Proofs.Try.prog id false f3_78 ⟨[(0,.lit (.int .i64 p)),(1,.sl false 4 (l.map acAV)),(5,.ptr b 0),(7,.ptr ob 0),(8,.ptr cb 0),(9,.lit (.int .i64 (rn (onDo o T d (w.tmod 3,t,0,s)).1.1))),(10,.lit (.int .i64 (tt))),(11,.sl false 1 (ints (W))),(12,.lit (.int .i64 (i:Nat))),(13,.lptr 13 0),(144,.lit (.bool false))],[(13,[.lit (.int .i64 w),.lit (.int .i64 t),.lit (.int .i64 n),.lit (.bool s)])]⟩ st' Q) :
    aC Go.Proofs.Try.prog id false f3_55 ⟨[(0,.lit (.int .i64 p)),(1,.sl false 4 (l.map acAV)),(5,.ptr b 0),(7,.ptr ob 0),(8,.ptr cb 0),(9,.lit (.int .i64 (rn o))),(10,.lit (.int .i64 (tt))),(11,.sl false 1 (ints (W))),(12,.lit (.int .i64 (i:Nat))),(13,.lptr 13 0),(97,.lit (.bool false))],[(13,[.lit (.int .i64 w),.lit (.int .i64 t),.lit (.int .i64 n),.lit (.bool s)])]⟩ st Q:=by
  have hb:=mh h hg0 (w.tmod 3,t,0,s)
  obtain ⟨f1,f2,f3,f4,f5⟩:=onDo_facts (T:=T) (w.tmod 3,t,0,s) (fun t ht=>(h.ln.tk t ht).1) h.ob.1 hd
  have hcn:=h.ln.cnt
  simp only at f1 f2 f3 f4 f5
  simp (config:=KF) (disch:=omega) only [bZ,and_self,ag,af,dm,ai,am,bstV,addA,ae,bL,aQ,ev_f,putS,Sf.set,Sf.reg,getR,setR,look,id,ak,ap,ah,ao,List.length_cons,List.length_nil,List.getElem?_cons_zero,List.getElem?_cons_succ,List.all_cons,List.all_nil,List.drop_zero,List.drop_succ_cons,List.set_cons_zero,List.set_cons_succ,↓reduceIte,Nat.reduceEqDiff,Nat.reduceAdd,Nat.reduceLeDiff,Bool.and_true,and_true,reduceCtorEq,Nat.zero_add,Nat.add_zero,l5,aD,aq,f3_55e,f3_56e,f3_56l]
  generalize hw3:w.tmod 3 = z at *
  generalize (onDo o T d (z,t,0,s)).1.1 = o' at *
  generalize (onDo o T d (z,t,0,s)).1.2.1 = T' at *
  generalize (onDo o T d (z,t,0,s)).1.2.2 = d' at *
  generalize (onDo o T d (z,t,0,s)).2 = R at *
  obtain ⟨r1,r2,r3,r4⟩:=R
  simp only at f1 f2 f3 f4 f5
  obtain ⟨w1,w2,w3,w4,w5,w6,w7⟩:=ci r3
  refine aY rfl e_f16 hb rfl fun r st1 hr=>?_
  obtain ⟨g',rfl,h1,h2,h3⟩:=hr
  have hdn:=ondone_pure h1
  have q0:=rn_le o
  have q1:=rn_le o'
  replace hQ:=hQ st1 g' h1 (fun h=>(f4 h).2) h2 h3
  generalize rn o' = y at *
  generalize rn o = y0 at *
  cases r1 with
  | true =>
    obtain ⟨rfl,e1⟩:=f1 rfl
    obtain ⟨rfl,rfl⟩:y0 = 0∧y = 1:=by omega
    have hdf:d' = false:=by
      cases d' with
      | false=>rfl
      | true=>have:=(f4 rfl).1; omega
    subst hdf
    by_cases he:r4 = 0
    · subst he
      simp (config:=KF) (disch:=omega) only [bZ,aj,AI.dst,aX,aw,aK,ag,af,al,cw,bp,ai,bj,aG,am,boxX,bE,addA,ae,cV,bz,aW,bQ,aQ,ev_f,aM,bg,putS,Sf.set,Sf.reg,getR,setR,aa,Sf.disAt,Sf.newLoc,Sf.setLoc,look,cm,bH,id,aF,au,ap,ah,ao,cF,bF,br,d6,bu,List.length_cons,List.length_nil,List.all_cons,List.all_nil,List.drop_zero,List.drop_succ_cons,List.set_cons_zero,List.set_cons_succ,↓reduceIte,Nat.reduceEqDiff,Nat.reduceAdd,Nat.reduceLeDiff,Int.reduceLT,Int.reduceEq,Bool.true_and,Bool.and_true,and_true,true_and,reduceCtorEq,Nat.zero_add,Nat.add_zero,decide_true,decide_false,Bool.false_eq_true,a9,IntWalk.i64_in,l5,Int.zero_add,aD,aq,f3_57e,f3_58e,f3_59e,f3_59l,f3_60e,f3_61e,f3_61l,f3_62e,f3_63e,f3_64e,f3_64l,f3_65e,f3_72e,f3_73e,f3_74e,f3_74l,hw3,rsAV,w2,w4]
      refine aE rfl e_f17 hdn rfl ?_
      simp (config:=KF) (disch:=omega) only [bZ,aj,aU,AI.dst,aw,aK,aG,putS,Sf.set,Sf.reg,getR,setR,aa,look,↓reduceIte,Nat.reduceEqDiff,reduceCtorEq,Bool.false_eq_true,f3_75e]
      exact hQ
    · simp (config:=KF) (disch:=omega) only [bZ,aj,aU,AI.dst,aw,aK,ag,af,al,cw,bp,ai,aG,am,boxX,bE,addA,ae,cV,bz,aW,bQ,ev_f,aM,bg,putS,Sf.set,Sf.reg,getR,setR,aa,Sf.disAt,Sf.newLoc,Sf.setLoc,look,cm,bH,id,aF,au,ap,ah,ao,cF,bF,br,d6,bu,List.length_cons,List.length_nil,List.all_cons,List.all_nil,List.drop_zero,List.drop_succ_cons,List.set_cons_zero,List.set_cons_succ,↓reduceIte,Nat.reduceEqDiff,Nat.reduceAdd,Nat.reduceLeDiff,Int.reduceLT,Bool.true_and,Bool.and_true,and_true,true_and,reduceCtorEq,Nat.zero_add,Nat.add_zero,decide_false,Bool.false_eq_true,a9,IntWalk.i64_in,Int.zero_add,aD,aq,f3_57e,f3_58e,f3_59e,f3_59l,f3_60e,f3_61e,f3_61l,f3_62e,f3_63e,f3_64e,f3_64l,f3_65e,f3_72e,f3_73e,f3_74e,f3_74l,rsAV,w2,w4,he]
      refine aE rfl e_f17 hdn rfl ?_
      simp (config:=KF) (disch:=omega) only [bZ,aj,aU,AI.dst,aw,aK,aG,putS,Sf.set,Sf.reg,getR,setR,aa,look,↓reduceIte,Nat.reduceEqDiff,reduceCtorEq,Bool.false_eq_true,f3_75e]
      exact hQ
  | false =>
    by_cases he:r4 = 0
    · subst he
      by_cases hz:z = 1
      · subst hz
        obtain ⟨_,rfl,e2,e3⟩:=f3 rfl rfl
        cases s with
        | true =>
          obtain rfl:=e2 rfl
          simp (config:=KF) (disch:=omega) only [bZ,aj,AI.dst,aX,aw,aK,o_un,ag,af,al,cw,bp,ai,bj,aG,am,boxX,bE,addA,ae,unA,n_sub,bz,aW,bQ,aQ,ev_f,aM,bg,putS,Sf.set,Sf.reg,getR,setR,aa,Sf.disAt,Sf.newLoc,Sf.setLoc,look,cm,bH,id,aF,au,ap,ah,ao,cF,bF,br,d6,bu,List.length_cons,List.length_nil,List.all_cons,List.all_nil,List.drop_zero,List.drop_succ_cons,List.set_cons_zero,List.set_cons_succ,↓reduceIte,Nat.reduceEqDiff,Nat.reduceAdd,Nat.reduceLeDiff,Int.reduceLT,Int.reduceSub,Bool.true_and,Bool.and_true,and_true,true_and,reduceCtorEq,Nat.zero_add,Nat.add_zero,decide_true,decide_false,Bool.not_true,Bool.false_eq_true,a9,IntWalk.i64_in,l5,aD,aq,f3_57e,f3_58e,f3_59e,f3_59l,f3_60e,f3_62e,f3_63e,f3_64e,f3_64l,f3_65e,f3_66e,f3_67e,f3_67l,f3_68e,f3_69e,f3_69l,f3_70e,f3_72e,f3_73e,f3_74e,f3_74l,hw3,rsAV,w2,w4]
          refine aE rfl e_f17 hdn rfl ?_
          cases d'
          all_goals
            simp (config:=KF) (disch:=omega) only [bZ,aj,aU,AI.dst,aX,aw,aK,bj,aG,bW,putS,Sf.set,Sf.reg,getR,setR,aa,look,↓reduceIte,Nat.reduceEqDiff,reduceCtorEq,not_true_eq_false,decide_false,Bool.false_eq_true,f3_75e]
            exact hQ
        | false =>
          have e4:=e3 rfl
          have hdf:d' = true→y = 0:=fun h=>(f4 h).1
          cases r3 with
          | nil =>
            obtain rfl:y = 0:=by simpa using e4
            have e:lAV [] = .lit (.slice none 0 0):=rfl
            simp (config:=KF) (disch:=omega) only [bZ,aj,AI.dst,aX,aw,aK,o_un,ag,af,bd,al,cw,bp,ai,bj,aG,am,boxX,bE,lenI,addA,ae,unA,cV,n_sub,bz,aW,bQ,aQ,ev_f,aM,bg,putS,Sf.set,Sf.reg,getR,setR,aa,Sf.disAt,Sf.newLoc,Sf.setLoc,look,cm,bH,id,aF,au,ap,ah,ao,cF,bF,br,d6,bu,List.length_cons,List.length_nil,List.all_cons,List.all_nil,List.drop_zero,List.drop_succ_cons,List.set_cons_zero,List.set_cons_succ,↓reduceIte,Nat.reduceEqDiff,Nat.reduceAdd,Nat.reduceLeDiff,Int.reduceLT,Int.reduceSub,Bool.true_and,Bool.and_true,and_true,true_and,reduceCtorEq,Nat.zero_add,Nat.add_zero,decide_true,decide_false,Bool.not_false,Bool.false_eq_true,a9,IntWalk.i64_in,l5,Int.add_zero,aD,aq,f3_57e,f3_58e,f3_59e,f3_59l,f3_60e,f3_62e,f3_63e,f3_64e,f3_64l,f3_65e,f3_66e,f3_67e,f3_67l,f3_68e,f3_69e,f3_69l,f3_70e,f3_71e,f3_71l,f3_72e,f3_73e,f3_74e,f3_74l,hw3,rsAV,e]
            refine aE rfl e_f17 hdn rfl ?_
            cases d'
            all_goals
              simp (config:=KF) (disch:=omega) only [bZ,aj,aU,AI.dst,aX,aw,aK,bj,aG,bW,putS,Sf.set,Sf.reg,getR,setR,aa,look,↓reduceIte,Nat.reduceEqDiff,reduceCtorEq,not_true_eq_false,decide_false,Bool.false_eq_true,f3_75e]
              exact hQ
          | cons m B =>
            obtain rfl:B = []:=List.eq_nil_of_length_eq_zero (by simp only [List.length_cons] at e4; omega)
            obtain rfl:y = 1:=by simpa using e4
            obtain rfl:d' = false:=by
              cases d' with
              | false=>rfl
              | true=>have:=hdf rfl; omega
            have e:lAV [m] = .sl false 1 [.lit (.int .i64 m)]:=rfl
            simp (config:=KF) (disch:=omega) only [bZ,aj,AI.dst,aX,aw,aK,o_un,ag,af,bd,al,cw,bp,ai,bj,aG,am,boxX,bE,lenI,addA,ae,unA,cV,n_sub,bz,aW,bQ,aQ,ev_f,aM,bg,putS,Sf.set,Sf.reg,getR,setR,aa,Sf.disAt,Sf.newLoc,Sf.setLoc,look,cm,bH,id,ar,aF,au,gK,ap,ah,eS,ao,cF,bF,br,d6,bu,List.length_cons,List.length_nil,List.all_cons,List.all_nil,List.drop_zero,List.drop_succ_cons,List.set_cons_zero,List.set_cons_succ,Int.cast_ofNat_Int,↓reduceIte,Nat.reduceEqDiff,Nat.reduceAdd,Nat.reduceLeDiff,Int.reduceLT,Int.reduceSub,Bool.true_and,Bool.and_true,and_true,true_and,reduceCtorEq,Nat.zero_add,Nat.add_zero,decide_true,decide_false,Bool.not_false,Bool.false_eq_true,a9,IntWalk.i64_in,l5,Int.zero_add,aD,aq,f3_57e,f3_58e,f3_59e,f3_59l,f3_60e,f3_62e,f3_63e,f3_64e,f3_64l,f3_65e,f3_66e,f3_67e,f3_67l,f3_68e,f3_69e,f3_69l,f3_70e,f3_71e,f3_71l,f3_72e,f3_73e,f3_74e,f3_74l,hw3,rsAV,e]
            refine aE rfl e_f17 hdn rfl ?_
            simp (config:=KF) (disch:=omega) only [bZ,aj,aU,AI.dst,aw,aK,aG,putS,Sf.set,Sf.reg,getR,setR,aa,look,↓reduceIte,Nat.reduceEqDiff,reduceCtorEq,Bool.false_eq_true,f3_75e]
            exact hQ
      · obtain rfl:y = y0:=f2 rfl (by simp [hz])
        have hdf:d' = true→y = 0:=fun h=>(f4 h).1
        simp (config:=KF) (disch:=omega) only [bZ,aj,AI.dst,aX,aw,aK,ag,af,cw,bp,ai,bj,aG,am,boxX,bE,addA,ae,bz,aW,bQ,aQ,ev_f,aM,bg,putS,Sf.set,Sf.reg,getR,setR,aa,Sf.disAt,Sf.newLoc,Sf.setLoc,look,cm,bH,id,aF,au,ap,ah,ao,cF,bF,br,d6,bu,List.length_cons,List.length_nil,List.all_cons,List.all_nil,List.drop_zero,List.drop_succ_cons,List.set_cons_zero,List.set_cons_succ,↓reduceIte,Nat.reduceEqDiff,Nat.reduceAdd,Nat.reduceLeDiff,Bool.true_and,Bool.and_true,and_true,true_and,reduceCtorEq,Nat.zero_add,Nat.add_zero,decide_true,decide_false,Bool.false_eq_true,a9,l5,aD,aq,f3_57e,f3_58e,f3_59e,f3_59l,f3_60e,f3_62e,f3_63e,f3_64e,f3_64l,f3_65e,f3_72e,f3_73e,f3_74e,f3_74l,hw3,rsAV,w2,w4,hz]
        refine aE rfl e_f17 hdn rfl ?_
        cases d' with
        | true =>
          obtain rfl:y = 0:=hdf rfl
          simp (config:=KF) (disch:=omega) only [bZ,aj,AI.dst,aX,aw,aK,bj,aG,bW,putS,Sf.set,Sf.reg,getR,setR,aa,look,↓reduceIte,Nat.reduceEqDiff,Int.reduceLT,reduceCtorEq,not_true_eq_false,decide_false,Bool.false_eq_true,f3_75e]
          exact hQ
        | false =>
          simp (config:=KF) (disch:=omega) only [bZ,aj,aU,AI.dst,aw,aK,aG,putS,Sf.set,Sf.reg,getR,setR,aa,look,↓reduceIte,Nat.reduceEqDiff,reduceCtorEq,Bool.false_eq_true,f3_75e]
          exact hQ
    · obtain rfl:y = y0:=f2 rfl (by simp [he])
      have hdf:d' = true→y = 0:=fun h=>(f4 h).1
      simp (config:=KF) (disch:=omega) only [bZ,aj,aU,AI.dst,aw,aK,ag,af,cw,bp,ai,aG,am,boxX,bE,addA,ae,bz,aW,bQ,ev_f,aM,bg,putS,Sf.set,Sf.reg,getR,setR,aa,Sf.disAt,Sf.newLoc,Sf.setLoc,look,cm,bH,id,aF,au,ap,ah,ao,cF,bF,br,d6,bu,List.length_cons,List.length_nil,List.all_cons,List.all_nil,List.drop_zero,List.drop_succ_cons,List.set_cons_zero,List.set_cons_succ,↓reduceIte,Nat.reduceEqDiff,Nat.reduceAdd,Nat.reduceLeDiff,Bool.true_and,Bool.and_true,and_true,true_and,reduceCtorEq,Nat.zero_add,Nat.add_zero,decide_false,Bool.false_eq_true,a9,aD,aq,f3_57e,f3_58e,f3_59e,f3_59l,f3_60e,f3_62e,f3_63e,f3_64e,f3_64l,f3_65e,f3_72e,f3_73e,f3_74e,f3_74l,rsAV,w2,w4,he]
      refine aE rfl e_f17 hdn rfl ?_
      cases d' with
      | true =>
        obtain rfl:y = 0:=hdf rfl
        simp (config:=KF) (disch:=omega) only [bZ,aj,AI.dst,aX,aw,aK,bj,aG,bW,putS,Sf.set,Sf.reg,getR,setR,aa,look,↓reduceIte,Nat.reduceEqDiff,Int.reduceLT,reduceCtorEq,not_true_eq_false,decide_false,Bool.false_eq_true,f3_75e]
        exact hQ
      | false =>
        simp (config:=KF) (disch:=omega) only [bZ,aj,aU,AI.dst,aw,aK,aG,putS,Sf.set,Sf.reg,getR,setR,aa,look,↓reduceIte,Nat.reduceEqDiff,reduceCtorEq,Bool.false_eq_true,f3_75e]
        exact hQ
end
end Go.Fx.YtphaaebhgggbaaaFx

