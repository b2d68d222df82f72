/- What the functions that the statement reaches compute: part 17. -/
import Derived.Test.YtphaaebhgggbaaaFxW16
namespace Go.Fx.YtphaaebhgggbaaaFx
open Go Go.Fx
attribute [local irreducible] aC runI bD cS

set_option maxRecDepth 100000
set_option maxHeartbeats 8000000

/-! The condition's part of a round of LatchHolds: printed by wip/dev/gen_lt14.py. -/
section
variable {st:St} {p:Int} {l:List Ac} {b ob cb:Nat} {x ox cx cy:Ln} {u rr tt:Int} {T U:List Int} {W:List Int} {i:Nat} {g k:Nat} {w t n:Int} {s:Bool}
theorem holds_d {o:Int} (h:CoIs st cb cx cy o T U g k) (hg0:g + 100 < 1000000) (hk0:k < 1000000) (ho:T≠[]→0≤o) (hW:W.Sublist T) {Q:Exit→Sf→St→Prop}
    (hQ0:Q (.exit 1) ⟨[(0,.lit (.int .i64 p)),(1,.sl false 4 (l.map acAV)),(5,.ptr b 0),(7,.ptr ob 0),(8,.ptr cb 0),(9,.lit (.int .i64 (rr))),(10,.lit (.int .i64 (tt))),(11,.sl false 1 (ints (W))),(12,.lit (.int .i64 (i:Nat)))],[]⟩ st)
    (hQ:∀ st' o' T' U' W' g' k',CoIs st' cb cx cy o' T' U' g' k'→(T'≠[]→0≤o')→W'.Sublist T'→g'≤g + 64→k'≤k + 1→Oth st st' (cb::(cx.ids++cy.ids))→Q .normal ⟨[(0,.lit (.int .i64 p)),(1,.sl false 4 (l.map acAV)),(5,.ptr b 0),(7,.ptr ob 0),(8,.ptr cb 0),(9,.lit (.int .i64 (rr))),(10,.lit (.int .i64 (tt))),(11,.sl false 1 (ints (W'))),(12,.lit (.int .i64 (i:Nat)))],[]⟩ st') :
    aC Go.Proofs.Try.prog id false f3_78 ⟨[(0,.lit (.int .i64 p)),(1,.sl false 4 (l.map acAV)),(5,.ptr b 0),(7,.ptr ob 0),(8,.ptr cb 0),(9,.lit (.int .i64 (rr))),(10,.lit (.int .i64 (tt))),(11,.sl false 1 (ints (W))),(12,.lit (.int .i64 (i:Nat))),(13,.lptr 13 0),(144,.lit (.bool false))],[(13,[.lit (.int .i64 w),.lit (.int .i64 t),.lit (.int .i64 n),.lit (.bool s)])]⟩ st Q:=by
  have hpos:=h.pos
  have hcn:=h.ow.ln.cnt
  have hWl:=hW.length_le
  have lW:=e6 W
  by_cases hw0:w < 0
  · simp (config:=KF) (disch:=omega) only [bZ,bh,bJ,aj,aU,AI.dst,aX,aK,ag,af,bj,am,addA,ae,aW,putS,Sf.set,Sf.reg,getR,setR,aa,look,List.drop_zero,↓reduceIte,Nat.reduceEqDiff,reduceCtorEq,Nat.add_zero,Bool.false_eq_true,cd,f3_78e,f3_79e,f3_80e,f3_80l,f3_81e]
    exact hQ0
  by_cases hw4:4 < w
  · simp (config:=KF) (disch:=omega) only [bZ,bh,bJ,aj,AI.dst,aw,aK,ag,af,aG,am,addA,ae,aW,bQ,putS,Sf.set,Sf.reg,getR,setR,aa,look,List.drop_zero,↓reduceIte,Nat.reduceEqDiff,reduceCtorEq,Nat.add_zero,Bool.false_eq_true,bN,a9,f3_78e,f3_79e,f3_80e,f3_80l,f3_81e]
    exact hQ0
  have hb:=mi h hg0 hk0 (w,t,n,s)
  obtain ⟨f1,f2⟩:=coDo_facts (W:=W) (w,t,n,s) h.inv (fun t ht=>(hpos t ht).1) ho hW
  simp only at f1 f2
  generalize (coDo o T U (w,t,n,s)).1.1 = o' at *
  generalize (coDo o T U (w,t,n,s)).1.2.1 = T' at *
  generalize (coDo o T U (w,t,n,s)).1.2.2 = U' at *
  generalize (coDo o T U (w,t,n,s)).2 = R at *
  obtain ⟨r1,r2,r3,r4⟩:=R
  simp only at f1 f2
  obtain ⟨w1,w2,w3,w4,w5,w6,w7⟩:=ci r3
  simp (config:=KF) (disch:=omega) only [bZ,aj,AI.dst,aw,aK,ag,af,ai,aG,am,addA,ae,aZ,aW,bQ,aB,aQ,ev_f,putS,Sf.set,Sf.reg,getR,setR,aa,look,id,aF,au,List.length_cons,List.length_nil,List.drop_zero,List.take_succ_cons,List.take_zero,↓reduceIte,Nat.reduceEqDiff,Nat.reduceAdd,Nat.reduceLeDiff,reduceCtorEq,Nat.zero_add,Nat.add_zero,decide_true,Bool.false_eq_true,bK,a9,f3_78e,f3_79e,f3_80e,f3_80l,f3_81e,f3_82e,f3_83e,f3_83l]
  refine aY rfl e_f18 hb rfl fun r st1 hr=>?_
  obtain ⟨g',k',rfl,h1,h2,h3,h4⟩:=hr
  have how:=coown_pure h1
  have hwt:=cowait_pure h1
  have hT0:T'.length = 0∨0 < T'.length:=by omega
  have hTne:0 < T'.length→T'≠[]:=fun h e=>by simp [e] at h
  by_cases hw:w = 0
  · subst hw
    obtain ⟨rfl,q1,q2⟩:=f1 rfl
    have e:lAV [] = .lit (.slice none 0 0):=rfl
    simp (config:=KF) (disch:=omega) only [bZ,cw,bp,ai,boxX,bE,ev_f,aM,bg,putS,Sf.set,Sf.reg,getR,setR,aa,Sf.disAt,Sf.newLoc,Sf.setLoc,look,cm,bH,id,aF,au,ap,ah,ao,cF,bF,br,d6,bu,List.length_cons,List.length_nil,List.all_cons,List.all_nil,List.set_cons_zero,List.set_cons_succ,↓reduceIte,Nat.reduceEqDiff,Nat.reduceAdd,Nat.reduceLeDiff,Bool.true_and,Bool.and_true,and_true,true_and,reduceCtorEq,Nat.zero_add,aD,aq,f3_84e,f3_85e,f3_85l,rsAV,e]
    refine aE rfl e_f19 how rfl ?_
    simp (config:=KF) (disch:=omega) only [bZ,bI,al,ai,extV,ev_f,putS,Sf.set,Sf.reg,getR,setR,aa,Sf.disAt,look,id,aT,aJ,List.getElem?_cons_zero,List.getElem?_cons_succ,↓reduceIte,Nat.reduceEqDiff,reduceCtorEq,f3_86e,f3_87e,f3_87l]
    refine aE rfl e_f20 hwt rfl ?_
    by_cases he:r4 = 0
    · subst he
      cases r2 with
      | true =>
        have hf:=hQ st1 o' T' U' W g' k' h1 q1 (by simpa using q2) h2 h3 h4
        by_cases hz:0 < T'.length
        · have hp0:=q1 (hTne hz)
          simp (config:=KF) (disch:=omega) only [bZ,dI,aj,aU,AI.dst,aX,aw,aK,o_un,bI,ag,af,bd,al,bj,aG,extV,am,lenI,addA,ae,unA,bz,bQ,putS,Sf.set,Sf.reg,getR,setR,aa,Sf.disAt,look,aT,aJ,List.getElem?_cons_zero,List.getElem?_cons_succ,List.drop_zero,List.drop_succ_cons,↓reduceIte,Nat.reduceEqDiff,Int.reduceEq,reduceCtorEq,Nat.zero_add,Nat.add_zero,decide_true,decide_false,Bool.not_true,Bool.false_eq_true,jI,bK,cd,a9,f3_88e,f3_89e,f3_90e,f3_90l,f3_91e,f3_93e,f3_94e,f3_95e,f3_95l,f3_96e,f3_99e,f3_100e,f3_100l,f3_101e]
          rw [f3_102w]
          refine bC 1 ?_
          simp (config:=KF) (disch:=omega) only [bZ,bh,aP,bJ,bU,ag,af,bd,am,lenI,addA,ae,aW,putS,Sf.set,Sf.reg,getR,setR,aa,look,List.drop_zero,List.drop_succ_cons,↓reduceIte,Nat.reduceEqDiff,Int.reduceLT,reduceCtorEq,Nat.zero_add,decide_false,f3_103e,f3_104e,f3_105e,f3_105l,f3_106e,a7]
          exact hf
        · simp (config:=KF) (disch:=omega) only [bZ,dI,aj,aU,AI.dst,aX,aw,aK,o_un,bI,ag,af,bd,al,bj,aG,extV,am,lenI,addA,ae,unA,bz,bQ,putS,Sf.set,Sf.reg,getR,setR,aa,Sf.disAt,look,aT,aJ,List.getElem?_cons_zero,List.getElem?_cons_succ,List.drop_zero,List.drop_succ_cons,↓reduceIte,Nat.reduceEqDiff,Int.reduceEq,reduceCtorEq,Nat.zero_add,Nat.add_zero,decide_true,decide_false,Bool.not_true,Bool.false_eq_true,a9,f3_88e,f3_89e,f3_90e,f3_90l,f3_91e,f3_93e,f3_94e,f3_95e,f3_95l,f3_96e,f3_99e,f3_100e,f3_100l,f3_101e]
          rw [f3_102w]
          refine bC 1 ?_
          simp (config:=KF) (disch:=omega) only [bZ,bh,aP,bJ,bU,ag,af,bd,am,lenI,addA,ae,aW,putS,Sf.set,Sf.reg,getR,setR,aa,look,List.drop_zero,List.drop_succ_cons,↓reduceIte,Nat.reduceEqDiff,Int.reduceLT,reduceCtorEq,Nat.zero_add,decide_false,f3_103e,f3_104e,f3_105e,f3_105l,f3_106e,a7]
          exact hf
      | false =>
        have hf:=hQ st1 o' T' U' (W++[t]) g' k' h1 q1 (by simpa using q2) h2 h3 h4
        by_cases hz:0 < T'.length
        · have hp0:=q1 (hTne hz)
          simp (config:=KF) (disch:=omega) only [bZ,aj,AI.dst,aX,aK,o_un,bI,ag,af,al,ai,bj,extV,am,addA,ae,unA,bz,ev_f,putS,Sf.set,Sf.reg,getR,setR,aa,Sf.disAt,look,id,ar,aT,aJ,List.getElem?_cons_zero,List.getElem?_cons_succ,List.drop_zero,List.drop_succ_cons,↓reduceIte,Nat.reduceEqDiff,reduceCtorEq,Nat.zero_add,Nat.add_zero,decide_true,Bool.not_false,f3_88e,f3_89e,f3_90e,f3_90l,f3_91e,f3_92e,f3_92l]
          refine aE rfl e_f21 (rwith_sl W t (by omega) _) rfl ?_
          simp (config:=KF) (disch:=omega) only [bZ,dI,aj,aU,AI.dst,aX,aw,aK,o_un,ag,af,bd,al,bj,aG,am,lenI,addA,ae,unA,bz,bQ,putS,Sf.set,Sf.reg,getR,setR,aa,Sf.disAt,look,ar,List.drop_zero,List.drop_succ_cons,↓reduceIte,Nat.reduceEqDiff,Int.reduceEq,reduceCtorEq,Nat.zero_add,decide_false,Bool.false_eq_true,jI,bK,cd,a9,f3_93e,f3_94e,f3_95e,f3_95l,f3_96e,f3_99e,f3_100e,f3_100l,f3_101e]
          rw [f3_102w]
          refine bC 1 ?_
          simp (config:=KF) (disch:=omega) only [bZ,bh,aP,bJ,bU,ag,af,bd,am,lenI,addA,ae,aW,putS,Sf.set,Sf.reg,getR,setR,aa,look,List.drop_zero,List.drop_succ_cons,↓reduceIte,Nat.reduceEqDiff,Int.reduceLT,reduceCtorEq,Nat.zero_add,decide_false,f3_103e,f3_104e,f3_105e,f3_105l,f3_106e,a7]
          exact hf
        · simp (config:=KF) (disch:=omega) only [bZ,aj,AI.dst,aX,aK,o_un,bI,ag,af,al,ai,bj,extV,am,addA,ae,unA,bz,ev_f,putS,Sf.set,Sf.reg,getR,setR,aa,Sf.disAt,look,id,ar,aT,aJ,List.getElem?_cons_zero,List.getElem?_cons_succ,List.drop_zero,List.drop_succ_cons,↓reduceIte,Nat.reduceEqDiff,reduceCtorEq,Nat.zero_add,Nat.add_zero,decide_true,Bool.not_false,f3_88e,f3_89e,f3_90e,f3_90l,f3_91e,f3_92e,f3_92l]
          refine aE rfl e_f21 (rwith_sl W t (by omega) _) rfl ?_
          simp (config:=KF) (disch:=omega) only [bZ,dI,aj,aU,AI.dst,aw,aK,ag,af,bd,al,aG,am,lenI,addA,ae,bz,bQ,putS,Sf.set,Sf.reg,getR,setR,aa,Sf.disAt,look,ar,List.drop_zero,List.drop_succ_cons,↓reduceIte,Nat.reduceEqDiff,Int.reduceEq,reduceCtorEq,Nat.zero_add,decide_false,Bool.false_eq_true,a9,f3_93e,f3_94e,f3_95e,f3_95l,f3_96e,f3_99e,f3_100e,f3_100l,f3_101e]
          rw [f3_102w]
          refine bC 1 ?_
          simp (config:=KF) (disch:=omega) only [bZ,bh,aP,bJ,bU,ag,af,bd,am,lenI,addA,ae,aW,putS,Sf.set,Sf.reg,getR,setR,aa,look,List.drop_zero,List.drop_succ_cons,↓reduceIte,Nat.reduceEqDiff,Int.reduceLT,reduceCtorEq,Nat.zero_add,decide_false,f3_103e,f3_104e,f3_105e,f3_105l,f3_106e,a7]
          exact hf
    · have hf:=hQ st1 o' T' U' W g' k' h1 q1 (by simpa [he] using q2) h2 h3 h4
      by_cases hz:0 < T'.length
      · have hp0:=q1 (hTne hz)
        simp (config:=KF) (disch:=omega) only [bZ,dI,aj,aU,AI.dst,aX,aw,aK,o_un,bI,ag,af,bd,al,bj,aG,extV,am,lenI,addA,ae,unA,bz,bQ,putS,Sf.set,Sf.reg,getR,setR,aa,Sf.disAt,look,aT,aJ,List.getElem?_cons_zero,List.getElem?_cons_succ,List.drop_zero,List.drop_succ_cons,↓reduceIte,Nat.reduceEqDiff,Int.reduceEq,reduceCtorEq,Nat.zero_add,decide_false,Bool.false_eq_true,jI,bK,cd,a9,f3_88e,f3_89e,f3_90e,f3_90l,f3_91e,f3_93e,f3_94e,f3_95e,f3_95l,f3_96e,f3_99e,f3_100e,f3_100l,f3_101e,he]
        rw [f3_102w]
        refine bC 1 ?_
        simp (config:=KF) (disch:=omega) only [bZ,bh,aP,bJ,bU,ag,af,bd,am,lenI,addA,ae,aW,putS,Sf.set,Sf.reg,getR,setR,aa,look,List.drop_zero,List.drop_succ_cons,↓reduceIte,Nat.reduceEqDiff,Int.reduceLT,reduceCtorEq,Nat.zero_add,decide_false,f3_103e,f3_104e,f3_105e,f3_105l,f3_106e,a7]
        exact hf
      · simp (config:=KF) (disch:=omega) only [bZ,dI,aj,aU,AI.dst,aw,aK,bI,ag,af,bd,al,aG,extV,am,lenI,addA,ae,bz,bQ,putS,Sf.set,Sf.reg,getR,setR,aa,Sf.disAt,look,aT,aJ,List.getElem?_cons_zero,List.getElem?_cons_succ,List.drop_zero,List.drop_succ_cons,↓reduceIte,Nat.reduceEqDiff,Int.reduceEq,reduceCtorEq,Nat.zero_add,decide_false,Bool.false_eq_true,a9,f3_88e,f3_89e,f3_90e,f3_90l,f3_91e,f3_93e,f3_94e,f3_95e,f3_95l,f3_96e,f3_99e,f3_100e,f3_100l,f3_101e,he]
        rw [f3_102w]
        refine bC 1 ?_
        simp (config:=KF) (disch:=omega) only [bZ,bh,aP,bJ,bU,ag,af,bd,am,lenI,addA,ae,aW,putS,Sf.set,Sf.reg,getR,setR,aa,look,List.drop_zero,List.drop_succ_cons,↓reduceIte,Nat.reduceEqDiff,Int.reduceLT,reduceCtorEq,Nat.zero_add,decide_false,f3_103e,f3_104e,f3_105e,f3_105l,f3_106e,a7]
        exact hf
  · obtain ⟨q1,q2⟩:=f2 (by omega) (by omega)
    rcases q2 with ⟨rfl,q2⟩ | ⟨m,rfl,rfl,q2,q3,q4⟩
    · have hf:=hQ st1 o' T' U' W g' k' h1 q1 q2 h2 h3 h4
      have e:lAV [] = .lit (.slice none 0 0):=rfl
      simp (config:=KF) (disch:=omega) only [bZ,cw,bp,ai,boxX,bE,ev_f,aM,bg,putS,Sf.set,Sf.reg,getR,setR,aa,Sf.disAt,Sf.newLoc,Sf.setLoc,look,cm,bH,id,aF,au,ap,ah,ao,cF,bF,br,d6,bu,List.length_cons,List.length_nil,List.all_cons,List.all_nil,List.set_cons_zero,List.set_cons_succ,↓reduceIte,Nat.reduceEqDiff,Nat.reduceAdd,Nat.reduceLeDiff,Bool.true_and,Bool.and_true,and_true,true_and,reduceCtorEq,Nat.zero_add,aD,aq,f3_84e,f3_85e,f3_85l,rsAV,e]
      refine aE rfl e_f19 how rfl ?_
      simp (config:=KF) (disch:=omega) only [bZ,bI,al,ai,extV,ev_f,putS,Sf.set,Sf.reg,getR,setR,aa,Sf.disAt,look,id,aT,aJ,List.getElem?_cons_zero,List.getElem?_cons_succ,↓reduceIte,Nat.reduceEqDiff,reduceCtorEq,f3_86e,f3_87e,f3_87l]
      refine aE rfl e_f20 hwt rfl ?_
      by_cases he:r4 = 0
      · subst he
        by_cases hz:0 < T'.length
        · have hp0:=q1 (hTne hz)
          simp (config:=KF) (disch:=omega) only [bZ,dI,aj,aU,AI.dst,aX,aw,aK,o_un,bI,ag,af,bd,al,bj,aG,extV,am,lenI,addA,ae,unA,bz,bQ,putS,Sf.set,Sf.reg,getR,setR,aa,Sf.disAt,look,aT,aJ,List.getElem?_cons_zero,List.getElem?_cons_succ,List.drop_zero,List.drop_succ_cons,↓reduceIte,Nat.reduceEqDiff,Int.reduceEq,reduceCtorEq,Nat.zero_add,Nat.add_zero,decide_true,decide_false,Bool.false_eq_true,jI,bK,cd,a9,f3_88e,f3_89e,f3_90e,f3_90l,f3_91e,f3_93e,f3_94e,f3_95e,f3_95l,f3_96e,f3_99e,f3_100e,f3_100l,f3_101e,hw]
          rw [f3_102w]
          refine bC 1 ?_
          simp (config:=KF) (disch:=omega) only [bZ,bh,aP,bJ,bU,ag,af,bd,am,lenI,addA,ae,aW,putS,Sf.set,Sf.reg,getR,setR,aa,look,List.drop_zero,List.drop_succ_cons,↓reduceIte,Nat.reduceEqDiff,Int.reduceLT,reduceCtorEq,Nat.zero_add,decide_false,f3_103e,f3_104e,f3_105e,f3_105l,f3_106e,a7]
          exact hf
        · simp (config:=KF) (disch:=omega) only [bZ,dI,aj,aU,AI.dst,aX,aw,aK,bI,ag,af,bd,al,bj,aG,extV,am,lenI,addA,ae,bz,bQ,putS,Sf.set,Sf.reg,getR,setR,aa,Sf.disAt,look,aT,aJ,List.getElem?_cons_zero,List.getElem?_cons_succ,List.drop_zero,List.drop_succ_cons,↓reduceIte,Nat.reduceEqDiff,Int.reduceEq,reduceCtorEq,Nat.zero_add,Nat.add_zero,decide_true,decide_false,Bool.false_eq_true,a9,f3_88e,f3_89e,f3_90e,f3_90l,f3_91e,f3_93e,f3_94e,f3_95e,f3_95l,f3_96e,f3_99e,f3_100e,f3_100l,f3_101e,hw]
          rw [f3_102w]
          refine bC 1 ?_
          simp (config:=KF) (disch:=omega) only [bZ,bh,aP,bJ,bU,ag,af,bd,am,lenI,addA,ae,aW,putS,Sf.set,Sf.reg,getR,setR,aa,look,List.drop_zero,List.drop_succ_cons,↓reduceIte,Nat.reduceEqDiff,Int.reduceLT,reduceCtorEq,Nat.zero_add,decide_false,f3_103e,f3_104e,f3_105e,f3_105l,f3_106e,a7]
          exact hf
      · skip
        by_cases hz:0 < T'.length
        · have hp0:=q1 (hTne hz)
          simp (config:=KF) (disch:=omega) only [bZ,dI,aj,aU,AI.dst,aX,aw,aK,o_un,bI,ag,af,bd,al,bj,aG,extV,am,lenI,addA,ae,unA,bz,bQ,putS,Sf.set,Sf.reg,getR,setR,aa,Sf.disAt,look,aT,aJ,List.getElem?_cons_zero,List.getElem?_cons_succ,List.drop_zero,List.drop_succ_cons,↓reduceIte,Nat.reduceEqDiff,Int.reduceEq,reduceCtorEq,Nat.zero_add,decide_false,Bool.false_eq_true,jI,bK,cd,a9,f3_88e,f3_89e,f3_90e,f3_90l,f3_91e,f3_93e,f3_94e,f3_95e,f3_95l,f3_96e,f3_99e,f3_100e,f3_100l,f3_101e,he]
          rw [f3_102w]
          refine bC 1 ?_
          simp (config:=KF) (disch:=omega) only [bZ,bh,aP,bJ,bU,ag,af,bd,am,lenI,addA,ae,aW,putS,Sf.set,Sf.reg,getR,setR,aa,look,List.drop_zero,List.drop_succ_cons,↓reduceIte,Nat.reduceEqDiff,Int.reduceLT,reduceCtorEq,Nat.zero_add,decide_false,f3_103e,f3_104e,f3_105e,f3_105l,f3_106e,a7]
          exact hf
        · simp (config:=KF) (disch:=omega) only [bZ,dI,aj,aU,AI.dst,aw,aK,bI,ag,af,bd,al,aG,extV,am,lenI,addA,ae,bz,bQ,putS,Sf.set,Sf.reg,getR,setR,aa,Sf.disAt,look,aT,aJ,List.getElem?_cons_zero,List.getElem?_cons_succ,List.drop_zero,List.drop_succ_cons,↓reduceIte,Nat.reduceEqDiff,Int.reduceEq,reduceCtorEq,Nat.zero_add,decide_false,Bool.false_eq_true,a9,f3_88e,f3_89e,f3_90e,f3_90l,f3_91e,f3_93e,f3_94e,f3_95e,f3_95l,f3_96e,f3_99e,f3_100e,f3_100l,f3_101e,he]
          rw [f3_102w]
          refine bC 1 ?_
          simp (config:=KF) (disch:=omega) only [bZ,bh,aP,bJ,bU,ag,af,bd,am,lenI,addA,ae,aW,putS,Sf.set,Sf.reg,getR,setR,aa,look,List.drop_zero,List.drop_succ_cons,↓reduceIte,Nat.reduceEqDiff,Int.reduceLT,reduceCtorEq,Nat.zero_add,decide_false,f3_103e,f3_104e,f3_105e,f3_105l,f3_106e,a7]
          exact hf
    · have hf:=hQ st1 o' T' U' (W.filter (·≠o')) g' k' h1 q1 q4 h2 h3 h4
      have e:lAV [o'] = .sl false 1 [.lit (.int .i64 o')]:=rfl
      have hmx:max 0 o' = o':=by omega
      have hix:decide (0≤o') = true:=by simpa using q2
      rw [hmx,hix] at how
      have hh:∀ st,_:=fun st=>rhas_sl W o' (by omega) st
      have hwo:∀ st,_:=fun st=>rwithout_sl W o' (by omega) st
      simp (config:=KF) (disch:=omega) only [bZ,cw,bp,ai,boxX,bE,ev_f,aM,bg,putS,Sf.set,Sf.reg,getR,setR,aa,Sf.disAt,Sf.newLoc,Sf.setLoc,look,cm,bH,id,aF,au,gK,ap,ah,eS,ao,cF,bF,br,d6,bu,List.length_cons,List.length_nil,List.all_cons,List.all_nil,List.set_cons_zero,List.set_cons_succ,↓reduceIte,Nat.reduceEqDiff,Nat.reduceAdd,Nat.reduceLeDiff,Bool.true_and,Bool.and_true,and_true,true_and,reduceCtorEq,Nat.zero_add,aD,aq,f3_84e,f3_85e,f3_85l,rsAV,e]
      refine aE rfl e_f19 how rfl ?_
      simp (config:=KF) (disch:=omega) only [bZ,bI,al,ai,extV,ev_f,putS,Sf.set,Sf.reg,getR,setR,aa,Sf.disAt,look,id,aT,aJ,List.getElem?_cons_zero,List.getElem?_cons_succ,↓reduceIte,Nat.reduceEqDiff,reduceCtorEq,f3_86e,f3_87e,f3_87l]
      refine aE rfl e_f20 hwt rfl ?_
      cases W with
      | nil =>
        have e1:ints [] = []:=rfl
        by_cases he:r4 = 0
        · subst he
          by_cases hz:0 < T'.length
          · simp (config:=KF) (disch:=omega) only [bZ,and_self,aj,aU,AI.dst,aX,aw,aK,o_un,bI,ag,c8,af,bd,al,bj,aG,extV,ixSV,am,ixA,lenI,addA,ae,unA,bz,bW,bQ,aB,aQ,putS,Sf.set,Sf.reg,getR,setR,aa,Sf.disAt,look,ar,aT,aJ,ak,List.length_cons,List.length_nil,List.getElem?_cons_zero,List.getElem?_cons_succ,List.getD_cons_zero,List.drop_zero,List.drop_succ_cons,Int.toNat_zero,Int.cast_ofNat_Int,↓reduceIte,Nat.reduceEqDiff,Int.reduceLT,Int.reduceLE,reduceCtorEq,Nat.zero_add,Nat.add_zero,not_true_eq_false,decide_true,decide_false,Bool.not_true,Bool.false_eq_true,cd,a9,f3_88e,f3_89e,f3_90e,f3_90l,f3_91e,f3_93e,f3_94e,f3_95e,f3_95l,f3_96e,f3_99e,f3_100e,f3_100l,f3_101e,hw]
            rw [f3_102w]
            refine bC 2 ?_
            simp (config:=KF) (disch:=omega) only [bZ,List.contains_nil,dR,ca,dz,cQ,el,eI,fc,d7,ey,bw,bY,and_self,aj,aU,AI.dst,aw,aK,ag,c8,af,bd,ai,aG,ixSV,am,ixA,lenI,addA,ae,aW,bQ,aB,aQ,ev_f,putS,Sf.set,Sf.reg,getR,setR,aa,look,bO,id,ar,ak,List.length_cons,List.length_nil,List.getD_cons_zero,List.drop_zero,List.drop_succ_cons,Int.toNat_zero,Int.cast_ofNat_Int,↓reduceIte,Nat.reduceEqDiff,Int.reduceLT,Int.reduceLE,reduceCtorEq,Nat.zero_add,decide_true,Bool.false_eq_true,iz,f3_103e,f3_104e,f3_105e,f3_105l,f3_106e,f3_107e,f3_108e,f3_109e,f3_110e,f3_111e,f3_111h,f3_111l,f3_112e,f3_115e,f3_115l,a7,e1]
            refine aE rfl e_f23 (hwo _) rfl ?_
            simp (config:=KF) (disch:=omega) only [bZ,bh,aA,aP,bJ,cH,bU,ag,af,bd,al,am,lenI,addA,ae,cV,aW,putS,Sf.set,Sf.reg,getR,setR,aa,Sf.disAt,look,ar,List.length_cons,List.length_nil,List.drop_zero,List.drop_succ_cons,Int.cast_ofNat_Int,↓reduceIte,Nat.reduceEqDiff,Int.reduceLT,reduceCtorEq,Nat.zero_add,decide_false,IntWalk.i64_in,Int.zero_add,f3_103e,f3_104e,f3_105e,f3_105l,f3_106e,f3_116e,f3_116l,a7]
            exact hf
          · simp (config:=KF) (disch:=omega) only [bZ,and_self,aj,aU,AI.dst,aX,aw,aK,o_un,bI,ag,c8,af,bd,al,bj,aG,extV,ixSV,am,ixA,lenI,addA,ae,unA,bz,bW,bQ,aB,aQ,putS,Sf.set,Sf.reg,getR,setR,aa,Sf.disAt,look,ar,aT,aJ,ak,List.length_cons,List.length_nil,List.getElem?_cons_zero,List.getElem?_cons_succ,List.getD_cons_zero,List.drop_zero,List.drop_succ_cons,Int.toNat_zero,Int.cast_ofNat_Int,↓reduceIte,Nat.reduceEqDiff,Int.reduceLT,Int.reduceLE,reduceCtorEq,Nat.zero_add,Nat.add_zero,not_true_eq_false,decide_true,decide_false,Bool.not_true,Bool.false_eq_true,a9,f3_88e,f3_89e,f3_90e,f3_90l,f3_91e,f3_93e,f3_94e,f3_95e,f3_95l,f3_96e,f3_99e,f3_100e,f3_100l,f3_101e,hw]
            rw [f3_102w]
            refine bC 2 ?_
            simp (config:=KF) (disch:=omega) only [bZ,List.contains_nil,dR,ca,dz,cQ,el,eI,fc,d7,ey,bw,bY,and_self,aj,aU,AI.dst,aw,aK,ag,c8,af,bd,ai,aG,ixSV,am,ixA,lenI,addA,ae,aW,bQ,aB,aQ,ev_f,putS,Sf.set,Sf.reg,getR,setR,aa,look,bO,id,ar,ak,List.length_cons,List.length_nil,List.getD_cons_zero,List.drop_zero,List.drop_succ_cons,Int.toNat_zero,Int.cast_ofNat_Int,↓reduceIte,Nat.reduceEqDiff,Int.reduceLT,Int.reduceLE,reduceCtorEq,Nat.zero_add,decide_true,Bool.false_eq_true,iz,f3_103e,f3_104e,f3_105e,f3_105l,f3_106e,f3_107e,f3_108e,f3_109e,f3_110e,f3_111e,f3_111h,f3_111l,f3_112e,f3_115e,f3_115l,a7,e1]
            refine aE rfl e_f23 (hwo _) rfl ?_
            simp (config:=KF) (disch:=omega) only [bZ,bh,aA,aP,bJ,cH,bU,ag,af,bd,al,am,lenI,addA,ae,cV,aW,putS,Sf.set,Sf.reg,getR,setR,aa,Sf.disAt,look,ar,List.length_cons,List.length_nil,List.drop_zero,List.drop_succ_cons,Int.cast_ofNat_Int,↓reduceIte,Nat.reduceEqDiff,Int.reduceLT,reduceCtorEq,Nat.zero_add,decide_false,IntWalk.i64_in,Int.zero_add,f3_103e,f3_104e,f3_105e,f3_105l,f3_106e,f3_116e,f3_116l,a7]
            exact hf
        · by_cases hz:0 < T'.length
          · simp (config:=KF) (disch:=omega) only [bZ,and_self,aj,aU,AI.dst,aX,aw,aK,o_un,bI,ag,c8,af,bd,al,bj,aG,extV,ixSV,am,ixA,lenI,addA,ae,unA,bz,bW,bQ,aB,aQ,putS,Sf.set,Sf.reg,getR,setR,aa,Sf.disAt,look,ar,aT,aJ,ak,List.length_cons,List.length_nil,List.getElem?_cons_zero,List.getElem?_cons_succ,List.getD_cons_zero,List.drop_zero,List.drop_succ_cons,Int.toNat_zero,Int.cast_ofNat_Int,↓reduceIte,Nat.reduceEqDiff,Int.reduceLT,Int.reduceLE,reduceCtorEq,Nat.zero_add,not_true_eq_false,decide_true,decide_false,Bool.not_true,Bool.false_eq_true,cd,a9,f3_88e,f3_89e,f3_90e,f3_90l,f3_91e,f3_93e,f3_94e,f3_95e,f3_95l,f3_96e,f3_99e,f3_100e,f3_100l,f3_101e,he]
            rw [f3_102w]
            refine bC 2 ?_
            simp (config:=KF) (disch:=omega) only [bZ,List.contains_nil,dR,ca,dz,cQ,el,eI,fc,d7,ey,bw,bY,and_self,aj,aU,AI.dst,aw,aK,ag,c8,af,bd,ai,aG,ixSV,am,ixA,lenI,addA,ae,aW,bQ,aB,aQ,ev_f,putS,Sf.set,Sf.reg,getR,setR,aa,look,bO,id,ar,ak,List.length_cons,List.length_nil,List.getD_cons_zero,List.drop_zero,List.drop_succ_cons,Int.toNat_zero,Int.cast_ofNat_Int,↓reduceIte,Nat.reduceEqDiff,Int.reduceLT,Int.reduceLE,reduceCtorEq,Nat.zero_add,decide_true,Bool.false_eq_true,iz,f3_103e,f3_104e,f3_105e,f3_105l,f3_106e,f3_107e,f3_108e,f3_109e,f3_110e,f3_111e,f3_111h,f3_111l,f3_112e,f3_115e,f3_115l,a7,e1]
            refine aE rfl e_f23 (hwo _) rfl ?_
            simp (config:=KF) (disch:=omega) only [bZ,bh,aA,aP,bJ,cH,bU,ag,af,bd,al,am,lenI,addA,ae,cV,aW,putS,Sf.set,Sf.reg,getR,setR,aa,Sf.disAt,look,ar,List.length_cons,List.length_nil,List.drop_zero,List.drop_succ_cons,Int.cast_ofNat_Int,↓reduceIte,Nat.reduceEqDiff,Int.reduceLT,reduceCtorEq,Nat.zero_add,decide_false,IntWalk.i64_in,Int.zero_add,f3_103e,f3_104e,f3_105e,f3_105l,f3_106e,f3_116e,f3_116l,a7]
            exact hf
          · simp (config:=KF) (disch:=omega) only [bZ,and_self,aj,aU,AI.dst,aX,aw,aK,o_un,bI,ag,c8,af,bd,al,bj,aG,extV,ixSV,am,ixA,lenI,addA,ae,unA,bz,bW,bQ,aB,aQ,putS,Sf.set,Sf.reg,getR,setR,aa,Sf.disAt,look,ar,aT,aJ,ak,List.length_cons,List.length_nil,List.getElem?_cons_zero,List.getElem?_cons_succ,List.getD_cons_zero,List.drop_zero,List.drop_succ_cons,Int.toNat_zero,Int.cast_ofNat_Int,↓reduceIte,Nat.reduceEqDiff,Int.reduceLT,Int.reduceLE,reduceCtorEq,Nat.zero_add,not_true_eq_false,decide_true,decide_false,Bool.not_true,Bool.false_eq_true,a9,f3_88e,f3_89e,f3_90e,f3_90l,f3_91e,f3_93e,f3_94e,f3_95e,f3_95l,f3_96e,f3_99e,f3_100e,f3_100l,f3_101e,he]
            rw [f3_102w]
            refine bC 2 ?_
            simp (config:=KF) (disch:=omega) only [bZ,List.contains_nil,dR,ca,dz,cQ,el,eI,fc,d7,ey,bw,bY,and_self,aj,aU,AI.dst,aw,aK,ag,c8,af,bd,ai,aG,ixSV,am,ixA,lenI,addA,ae,aW,bQ,aB,aQ,ev_f,putS,Sf.set,Sf.reg,getR,setR,aa,look,bO,id,ar,ak,List.length_cons,List.length_nil,List.getD_cons_zero,List.drop_zero,List.drop_succ_cons,Int.toNat_zero,Int.cast_ofNat_Int,↓reduceIte,Nat.reduceEqDiff,Int.reduceLT,Int.reduceLE,reduceCtorEq,Nat.zero_add,decide_true,Bool.false_eq_true,iz,f3_103e,f3_104e,f3_105e,f3_105l,f3_106e,f3_107e,f3_108e,f3_109e,f3_110e,f3_111e,f3_111h,f3_111l,f3_112e,f3_115e,f3_115l,a7,e1]
            refine aE rfl e_f23 (hwo _) rfl ?_
            simp (config:=KF) (disch:=omega) only [bZ,bh,aA,aP,bJ,cH,bU,ag,af,bd,al,am,lenI,addA,ae,cV,aW,putS,Sf.set,Sf.reg,getR,setR,aa,Sf.disAt,look,ar,List.length_cons,List.length_nil,List.drop_zero,List.drop_succ_cons,Int.cast_ofNat_Int,↓reduceIte,Nat.reduceEqDiff,Int.reduceLT,reduceCtorEq,Nat.zero_add,decide_false,IntWalk.i64_in,Int.zero_add,f3_103e,f3_104e,f3_105e,f3_105l,f3_106e,f3_116e,f3_116l,a7]
            exact hf
      | cons a V =>
        have e1:(ints (a::V)).getD 0 .any = .lit (.int .i64 a):=rfl
        by_cases hm:o' ∈ a::V
        · have q5:a = o':=by simpa using q3 hm
          subst q5
          rw [decide_eq_true hm] at hh
          by_cases he:r4 = 0
          · subst he
            by_cases hz:0 < T'.length
            · simp (config:=KF) (disch:=omega) only [bZ,and_self,aj,aU,AI.dst,aX,aw,aK,o_un,bI,ag,c8,af,bd,al,bj,aG,extV,ixSV,am,ixA,lenI,addA,ae,unA,bz,bW,bQ,aB,aQ,putS,Sf.set,Sf.reg,getR,setR,aa,Sf.disAt,look,ar,aT,aJ,ak,List.length_cons,List.length_nil,List.getElem?_cons_zero,List.getElem?_cons_succ,List.getD_cons_zero,List.drop_zero,List.drop_succ_cons,Int.toNat_zero,Int.cast_ofNat_Int,↓reduceIte,Nat.reduceEqDiff,Int.reduceLT,Int.reduceLE,reduceCtorEq,Nat.zero_add,Nat.add_zero,not_true_eq_false,decide_true,decide_false,Bool.not_true,Bool.false_eq_true,cd,a9,f3_88e,f3_89e,f3_90e,f3_90l,f3_91e,f3_93e,f3_94e,f3_95e,f3_95l,f3_96e,f3_99e,f3_100e,f3_100l,f3_101e,hw]
              rw [f3_102w]
              refine bC 2 ?_
              simp (config:=KF) (disch:=omega) only [bZ,List.contains_nil,ca,dz,cQ,eI,cf,eU,ce,fc,eJ,da,bw,and_self,AI.dst,ag,af,bd,ixSV,am,ixA,lenI,addA,ae,aW,bQ,aB,aQ,ev_f,putS,Sf.set,Sf.reg,getR,setR,aa,look,bO,id,ar,ak,List.length_cons,List.length_nil,List.getD_cons_zero,List.drop_zero,List.drop_succ_cons,Int.toNat_zero,Int.cast_ofNat_Int,↓reduceIte,Nat.reduceEqDiff,Int.reduceLT,Int.reduceLE,reduceCtorEq,Nat.zero_add,decide_true,Bool.false_eq_true,dV,f3_103e,f3_104e,f3_105e,f3_105l,f3_106e,f3_107e,f3_108e,f3_109e,f3_110e,f3_111e,f3_111h,f3_111l,a7,lW]
              refine fM rfl e_f22 (hh _) rfl ?_
              simp (config:=KF) (disch:=omega) only [bZ,dR,ca,dz,cQ,el,cf,eU,ce,da,dG,bw,bY,and_self,aj,AI.dst,aX,aK,ag,c8,af,ai,bj,ixSV,am,ixA,addA,ae,bW,aB,aQ,ev_f,putS,Sf.set,Sf.reg,getR,setR,aa,look,id,ar,ak,List.length_cons,List.length_nil,List.getD_cons_zero,List.drop_zero,List.drop_succ_cons,Int.toNat_zero,Int.cast_ofNat_Int,↓reduceIte,Nat.reduceEqDiff,Int.reduceLT,Int.reduceLE,Bool.true_and,true_and,reduceCtorEq,Nat.zero_add,not_true_eq_false,decide_true,decide_false,cn,f3_112e,f3_115e,f3_115l,lW,e1]
              refine aE rfl e_f23 (hwo _) rfl ?_
              simp (config:=KF) (disch:=omega) only [bZ,bh,aA,aP,bJ,cH,bU,ag,af,bd,al,am,lenI,addA,ae,cV,aW,putS,Sf.set,Sf.reg,getR,setR,aa,Sf.disAt,look,ar,List.length_cons,List.length_nil,List.drop_zero,List.drop_succ_cons,Int.cast_ofNat_Int,↓reduceIte,Nat.reduceEqDiff,Int.reduceLT,reduceCtorEq,Nat.zero_add,decide_false,IntWalk.i64_in,Int.zero_add,f3_103e,f3_104e,f3_105e,f3_105l,f3_106e,f3_116e,f3_116l,a7]
              exact hf
            · simp (config:=KF) (disch:=omega) only [bZ,and_self,aj,aU,AI.dst,aX,aw,aK,o_un,bI,ag,c8,af,bd,al,bj,aG,extV,ixSV,am,ixA,lenI,addA,ae,unA,bz,bW,bQ,aB,aQ,putS,Sf.set,Sf.reg,getR,setR,aa,Sf.disAt,look,ar,aT,aJ,ak,List.length_cons,List.length_nil,List.getElem?_cons_zero,List.getElem?_cons_succ,List.getD_cons_zero,List.drop_zero,List.drop_succ_cons,Int.toNat_zero,Int.cast_ofNat_Int,↓reduceIte,Nat.reduceEqDiff,Int.reduceLT,Int.reduceLE,reduceCtorEq,Nat.zero_add,Nat.add_zero,not_true_eq_false,decide_true,decide_false,Bool.not_true,Bool.false_eq_true,a9,f3_88e,f3_89e,f3_90e,f3_90l,f3_91e,f3_93e,f3_94e,f3_95e,f3_95l,f3_96e,f3_99e,f3_100e,f3_100l,f3_101e,hw]
              rw [f3_102w]
              refine bC 2 ?_
              simp (config:=KF) (disch:=omega) only [bZ,List.contains_nil,ca,dz,cQ,eI,cf,eU,ce,fc,eJ,da,bw,and_self,AI.dst,ag,af,bd,ixSV,am,ixA,lenI,addA,ae,aW,bQ,aB,aQ,ev_f,putS,Sf.set,Sf.reg,getR,setR,aa,look,bO,id,ar,ak,List.length_cons,List.length_nil,List.getD_cons_zero,List.drop_zero,List.drop_succ_cons,Int.toNat_zero,Int.cast_ofNat_Int,↓reduceIte,Nat.reduceEqDiff,Int.reduceLT,Int.reduceLE,reduceCtorEq,Nat.zero_add,decide_true,Bool.false_eq_true,dV,f3_103e,f3_104e,f3_105e,f3_105l,f3_106e,f3_107e,f3_108e,f3_109e,f3_110e,f3_111e,f3_111h,f3_111l,a7,lW]
              refine fM rfl e_f22 (hh _) rfl ?_
              simp (config:=KF) (disch:=omega) only [bZ,dR,ca,dz,cQ,el,cf,eU,ce,da,dG,bw,bY,and_self,aj,AI.dst,aX,aK,ag,c8,af,ai,bj,ixSV,am,ixA,addA,ae,bW,aB,aQ,ev_f,putS,Sf.set,Sf.reg,getR,setR,aa,look,id,ar,ak,List.length_cons,List.length_nil,List.getD_cons_zero,List.drop_zero,List.drop_succ_cons,Int.toNat_zero,Int.cast_ofNat_Int,↓reduceIte,Nat.reduceEqDiff,Int.reduceLT,Int.reduceLE,Bool.true_and,true_and,reduceCtorEq,Nat.zero_add,not_true_eq_false,decide_true,decide_false,cn,f3_112e,f3_115e,f3_115l,lW,e1]
              refine aE rfl e_f23 (hwo _) rfl ?_
              simp (config:=KF) (disch:=omega) only [bZ,bh,aA,aP,bJ,cH,bU,ag,af,bd,al,am,lenI,addA,ae,cV,aW,putS,Sf.set,Sf.reg,getR,setR,aa,Sf.disAt,look,ar,List.length_cons,List.length_nil,List.drop_zero,List.drop_succ_cons,Int.cast_ofNat_Int,↓reduceIte,Nat.reduceEqDiff,Int.reduceLT,reduceCtorEq,Nat.zero_add,decide_false,IntWalk.i64_in,Int.zero_add,f3_103e,f3_104e,f3_105e,f3_105l,f3_106e,f3_116e,f3_116l,a7]
              exact hf
          · by_cases hz:0 < T'.length
            · simp (config:=KF) (disch:=omega) only [bZ,and_self,aj,aU,AI.dst,aX,aw,aK,o_un,bI,ag,c8,af,bd,al,bj,aG,extV,ixSV,am,ixA,lenI,addA,ae,unA,bz,bW,bQ,aB,aQ,putS,Sf.set,Sf.reg,getR,setR,aa,Sf.disAt,look,ar,aT,aJ,ak,List.length_cons,List.length_nil,List.getElem?_cons_zero,List.getElem?_cons_succ,List.getD_cons_zero,List.drop_zero,List.drop_succ_cons,Int.toNat_zero,Int.cast_ofNat_Int,↓reduceIte,Nat.reduceEqDiff,Int.reduceLT,Int.reduceLE,reduceCtorEq,Nat.zero_add,not_true_eq_false,decide_true,decide_false,Bool.not_true,Bool.false_eq_true,cd,a9,f3_88e,f3_89e,f3_90e,f3_90l,f3_91e,f3_93e,f3_94e,f3_95e,f3_95l,f3_96e,f3_99e,f3_100e,f3_100l,f3_101e,he]
              rw [f3_102w]
              refine bC 2 ?_
              simp (config:=KF) (disch:=omega) only [bZ,List.contains_nil,ca,dz,cQ,eI,cf,eU,ce,fc,eJ,da,bw,and_self,AI.dst,ag,af,bd,ixSV,am,ixA,lenI,addA,ae,aW,bQ,aB,aQ,ev_f,putS,Sf.set,Sf.reg,getR,setR,aa,look,bO,id,ar,ak,List.length_cons,List.length_nil,List.getD_cons_zero,List.drop_zero,List.drop_succ_cons,Int.toNat_zero,Int.cast_ofNat_Int,↓reduceIte,Nat.reduceEqDiff,Int.reduceLT,Int.reduceLE,reduceCtorEq,Nat.zero_add,decide_true,Bool.false_eq_true,dV,f3_103e,f3_104e,f3_105e,f3_105l,f3_106e,f3_107e,f3_108e,f3_109e,f3_110e,f3_111e,f3_111h,f3_111l,a7,lW]
              refine fM rfl e_f22 (hh _) rfl ?_
              simp (config:=KF) (disch:=omega) only [bZ,dR,ca,dz,cQ,el,cf,eU,ce,da,dG,bw,bY,and_self,aj,AI.dst,aX,aK,ag,c8,af,ai,bj,ixSV,am,ixA,addA,ae,bW,aB,aQ,ev_f,putS,Sf.set,Sf.reg,getR,setR,aa,look,id,ar,ak,List.length_cons,List.length_nil,List.getD_cons_zero,List.drop_zero,List.drop_succ_cons,Int.toNat_zero,Int.cast_ofNat_Int,↓reduceIte,Nat.reduceEqDiff,Int.reduceLT,Int.reduceLE,Bool.true_and,true_and,reduceCtorEq,Nat.zero_add,not_true_eq_false,decide_true,decide_false,cn,f3_112e,f3_115e,f3_115l,lW,e1]
              refine aE rfl e_f23 (hwo _) rfl ?_
              simp (config:=KF) (disch:=omega) only [bZ,bh,aA,aP,bJ,cH,bU,ag,af,bd,al,am,lenI,addA,ae,cV,aW,putS,Sf.set,Sf.reg,getR,setR,aa,Sf.disAt,look,ar,List.length_cons,List.length_nil,List.drop_zero,List.drop_succ_cons,Int.cast_ofNat_Int,↓reduceIte,Nat.reduceEqDiff,Int.reduceLT,reduceCtorEq,Nat.zero_add,decide_false,IntWalk.i64_in,Int.zero_add,f3_103e,f3_104e,f3_105e,f3_105l,f3_106e,f3_116e,f3_116l,a7]
              exact hf
            · simp (config:=KF) (disch:=omega) only [bZ,and_self,aj,aU,AI.dst,aX,aw,aK,o_un,bI,ag,c8,af,bd,al,bj,aG,extV,ixSV,am,ixA,lenI,addA,ae,unA,bz,bW,bQ,aB,aQ,putS,Sf.set,Sf.reg,getR,setR,aa,Sf.disAt,look,ar,aT,aJ,ak,List.length_cons,List.length_nil,List.getElem?_cons_zero,List.getElem?_cons_succ,List.getD_cons_zero,List.drop_zero,List.drop_succ_cons,Int.toNat_zero,Int.cast_ofNat_Int,↓reduceIte,Nat.reduceEqDiff,Int.reduceLT,Int.reduceLE,reduceCtorEq,Nat.zero_add,not_true_eq_false,decide_true,decide_false,Bool.not_true,Bool.false_eq_true,a9,f3_88e,f3_89e,f3_90e,f3_90l,f3_91e,f3_93e,f3_94e,f3_95e,f3_95l,f3_96e,f3_99e,f3_100e,f3_100l,f3_101e,he]
              rw [f3_102w]
              refine bC 2 ?_
              simp (config:=KF) (disch:=omega) only [bZ,List.contains_nil,ca,dz,cQ,eI,cf,eU,ce,fc,eJ,da,bw,and_self,AI.dst,ag,af,bd,ixSV,am,ixA,lenI,addA,ae,aW,bQ,aB,aQ,ev_f,putS,Sf.set,Sf.reg,getR,setR,aa,look,bO,id,ar,ak,List.length_cons,List.length_nil,List.getD_cons_zero,List.drop_zero,List.drop_succ_cons,Int.toNat_zero,Int.cast_ofNat_Int,↓reduceIte,Nat.reduceEqDiff,Int.reduceLT,Int.reduceLE,reduceCtorEq,Nat.zero_add,decide_true,Bool.false_eq_true,dV,f3_103e,f3_104e,f3_105e,f3_105l,f3_106e,f3_107e,f3_108e,f3_109e,f3_110e,f3_111e,f3_111h,f3_111l,a7,lW]
              refine fM rfl e_f22 (hh _) rfl ?_
              simp (config:=KF) (disch:=omega) only [bZ,dR,ca,dz,cQ,el,cf,eU,ce,da,dG,bw,bY,and_self,aj,AI.dst,aX,aK,ag,c8,af,ai,bj,ixSV,am,ixA,addA,ae,bW,aB,aQ,ev_f,putS,Sf.set,Sf.reg,getR,setR,aa,look,id,ar,ak,List.length_cons,List.length_nil,List.getD_cons_zero,List.drop_zero,List.drop_succ_cons,Int.toNat_zero,Int.cast_ofNat_Int,↓reduceIte,Nat.reduceEqDiff,Int.reduceLT,Int.reduceLE,Bool.true_and,true_and,reduceCtorEq,Nat.zero_add,not_true_eq_false,decide_true,decide_false,cn,f3_112e,f3_115e,f3_115l,lW,e1]
              refine aE rfl e_f23 (hwo _) rfl ?_
              simp (config:=KF) (disch:=omega) only [bZ,bh,aA,aP,bJ,cH,bU,ag,af,bd,al,am,lenI,addA,ae,cV,aW,putS,Sf.set,Sf.reg,getR,setR,aa,Sf.disAt,look,ar,List.length_cons,List.length_nil,List.drop_zero,List.drop_succ_cons,Int.cast_ofNat_Int,↓reduceIte,Nat.reduceEqDiff,Int.reduceLT,reduceCtorEq,Nat.zero_add,decide_false,IntWalk.i64_in,Int.zero_add,f3_103e,f3_104e,f3_105e,f3_105l,f3_106e,f3_116e,f3_116l,a7]
              exact hf
        · rw [decide_eq_false hm] at hh
          by_cases he:r4 = 0
          · subst he
            by_cases hz:0 < T'.length
            · simp (config:=KF) (disch:=omega) only [bZ,and_self,aj,aU,AI.dst,aX,aw,aK,o_un,bI,ag,c8,af,bd,al,bj,aG,extV,ixSV,am,ixA,lenI,addA,ae,unA,bz,bW,bQ,aB,aQ,putS,Sf.set,Sf.reg,getR,setR,aa,Sf.disAt,look,ar,aT,aJ,ak,List.length_cons,List.length_nil,List.getElem?_cons_zero,List.getElem?_cons_succ,List.getD_cons_zero,List.drop_zero,List.drop_succ_cons,Int.toNat_zero,Int.cast_ofNat_Int,↓reduceIte,Nat.reduceEqDiff,Int.reduceLT,Int.reduceLE,reduceCtorEq,Nat.zero_add,Nat.add_zero,not_true_eq_false,decide_true,decide_false,Bool.not_true,Bool.false_eq_true,cd,a9,f3_88e,f3_89e,f3_90e,f3_90l,f3_91e,f3_93e,f3_94e,f3_95e,f3_95l,f3_96e,f3_99e,f3_100e,f3_100l,f3_101e,hw]
              rw [f3_102w]
              refine bC 2 ?_
              simp (config:=KF) (disch:=omega) only [bZ,List.contains_nil,ca,dz,cQ,eI,cf,eU,ce,fc,eJ,da,bw,and_self,AI.dst,ag,af,bd,ixSV,am,ixA,lenI,addA,ae,aW,bQ,aB,aQ,ev_f,putS,Sf.set,Sf.reg,getR,setR,aa,look,bO,id,ar,ak,List.length_cons,List.length_nil,List.getD_cons_zero,List.drop_zero,List.drop_succ_cons,Int.toNat_zero,Int.cast_ofNat_Int,↓reduceIte,Nat.reduceEqDiff,Int.reduceLT,Int.reduceLE,reduceCtorEq,Nat.zero_add,decide_true,Bool.false_eq_true,dV,f3_103e,f3_104e,f3_105e,f3_105l,f3_106e,f3_107e,f3_108e,f3_109e,f3_110e,f3_111e,f3_111h,f3_111l,a7,lW]
              refine fM rfl e_f22 (hh _) rfl ?_
              simp (config:=KF) (disch:=omega) only [bZ,dR,ca,dz,cQ,el,d7,dG,ey,bw,bY,and_self,aj,aU,AI.dst,aw,aK,ag,c8,af,ai,bj,aG,ixSV,am,ixA,addA,ae,aB,aQ,ev_f,putS,Sf.set,Sf.reg,getR,setR,aa,look,id,ar,ak,List.length_cons,List.length_nil,List.getD_cons_zero,List.drop_zero,List.drop_succ_cons,Int.toNat_zero,Int.cast_ofNat_Int,↓reduceIte,Nat.reduceEqDiff,Int.reduceLT,Int.reduceLE,reduceCtorEq,Nat.zero_add,decide_true,Bool.false_eq_true,f3_112e,f3_115e,f3_115l]
              refine aE rfl e_f23 (hwo _) rfl ?_
              simp (config:=KF) (disch:=omega) only [bZ,bh,aA,aP,bJ,cH,bU,ag,af,bd,al,am,lenI,addA,ae,cV,aW,putS,Sf.set,Sf.reg,getR,setR,aa,Sf.disAt,look,ar,List.length_cons,List.length_nil,List.drop_zero,List.drop_succ_cons,Int.cast_ofNat_Int,↓reduceIte,Nat.reduceEqDiff,Int.reduceLT,reduceCtorEq,Nat.zero_add,decide_false,IntWalk.i64_in,Int.zero_add,f3_103e,f3_104e,f3_105e,f3_105l,f3_106e,f3_116e,f3_116l,a7]
              exact hf
            · simp (config:=KF) (disch:=omega) only [bZ,and_self,aj,aU,AI.dst,aX,aw,aK,o_un,bI,ag,c8,af,bd,al,bj,aG,extV,ixSV,am,ixA,lenI,addA,ae,unA,bz,bW,bQ,aB,aQ,putS,Sf.set,Sf.reg,getR,setR,aa,Sf.disAt,look,ar,aT,aJ,ak,List.length_cons,List.length_nil,List.getElem?_cons_zero,List.getElem?_cons_succ,List.getD_cons_zero,List.drop_zero,List.drop_succ_cons,Int.toNat_zero,Int.cast_ofNat_Int,↓reduceIte,Nat.reduceEqDiff,Int.reduceLT,Int.reduceLE,reduceCtorEq,Nat.zero_add,Nat.add_zero,not_true_eq_false,decide_true,decide_false,Bool.not_true,Bool.false_eq_true,a9,f3_88e,f3_89e,f3_90e,f3_90l,f3_91e,f3_93e,f3_94e,f3_95e,f3_95l,f3_96e,f3_99e,f3_100e,f3_100l,f3_101e,hw]
              rw [f3_102w]
              refine bC 2 ?_
              simp (config:=KF) (disch:=omega) only [bZ,List.contains_nil,ca,dz,cQ,eI,cf,eU,ce,fc,eJ,da,bw,and_self,AI.dst,ag,af,bd,ixSV,am,ixA,lenI,addA,ae,aW,bQ,aB,aQ,ev_f,putS,Sf.set,Sf.reg,getR,setR,aa,look,bO,id,ar,ak,List.length_cons,List.length_nil,List.getD_cons_zero,List.drop_zero,List.drop_succ_cons,Int.toNat_zero,Int.cast_ofNat_Int,↓reduceIte,Nat.reduceEqDiff,Int.reduceLT,Int.reduceLE,reduceCtorEq,Nat.zero_add,decide_true,Bool.false_eq_true,dV,f3_103e,f3_104e,f3_105e,f3_105l,f3_106e,f3_107e,f3_108e,f3_109e,f3_110e,f3_111e,f3_111h,f3_111l,a7,lW]
              refine fM rfl e_f22 (hh _) rfl ?_
              simp (config:=KF) (disch:=omega) only [bZ,dR,ca,dz,cQ,el,d7,dG,ey,bw,bY,and_self,aj,aU,AI.dst,aw,aK,ag,c8,af,ai,bj,aG,ixSV,am,ixA,addA,ae,aB,aQ,ev_f,putS,Sf.set,Sf.reg,getR,setR,aa,look,id,ar,ak,List.length_cons,List.length_nil,List.getD_cons_zero,List.drop_zero,List.drop_succ_cons,Int.toNat_zero,Int.cast_ofNat_Int,↓reduceIte,Nat.reduceEqDiff,Int.reduceLT,Int.reduceLE,reduceCtorEq,Nat.zero_add,decide_true,Bool.false_eq_true,f3_112e,f3_115e,f3_115l]
              refine aE rfl e_f23 (hwo _) rfl ?_
              simp (config:=KF) (disch:=omega) only [bZ,bh,aA,aP,bJ,cH,bU,ag,af,bd,al,am,lenI,addA,ae,cV,aW,putS,Sf.set,Sf.reg,getR,setR,aa,Sf.disAt,look,ar,List.length_cons,List.length_nil,List.drop_zero,List.drop_succ_cons,Int.cast_ofNat_Int,↓reduceIte,Nat.reduceEqDiff,Int.reduceLT,reduceCtorEq,Nat.zero_add,decide_false,IntWalk.i64_in,Int.zero_add,f3_103e,f3_104e,f3_105e,f3_105l,f3_106e,f3_116e,f3_116l,a7]
              exact hf
          · by_cases hz:0 < T'.length
            · simp (config:=KF) (disch:=omega) only [bZ,and_self,aj,aU,AI.dst,aX,aw,aK,o_un,bI,ag,c8,af,bd,al,bj,aG,extV,ixSV,am,ixA,lenI,addA,ae,unA,bz,bW,bQ,aB,aQ,putS,Sf.set,Sf.reg,getR,setR,aa,Sf.disAt,look,ar,aT,aJ,ak,List.length_cons,List.length_nil,List.getElem?_cons_zero,List.getElem?_cons_succ,List.getD_cons_zero,List.drop_zero,List.drop_succ_cons,Int.toNat_zero,Int.cast_ofNat_Int,↓reduceIte,Nat.reduceEqDiff,Int.reduceLT,Int.reduceLE,reduceCtorEq,Nat.zero_add,not_true_eq_false,decide_true,decide_false,Bool.not_true,Bool.false_eq_true,cd,a9,f3_88e,f3_89e,f3_90e,f3_90l,f3_91e,f3_93e,f3_94e,f3_95e,f3_95l,f3_96e,f3_99e,f3_100e,f3_100l,f3_101e,he]
              rw [f3_102w]
              refine bC 2 ?_
              simp (config:=KF) (disch:=omega) only [bZ,List.contains_nil,ca,dz,cQ,eI,cf,eU,ce,fc,eJ,da,bw,and_self,AI.dst,ag,af,bd,ixSV,am,ixA,lenI,addA,ae,aW,bQ,aB,aQ,ev_f,putS,Sf.set,Sf.reg,getR,setR,aa,look,bO,id,ar,ak,List.length_cons,List.length_nil,List.getD_cons_zero,List.drop_zero,List.drop_succ_cons,Int.toNat_zero,Int.cast_ofNat_Int,↓reduceIte,Nat.reduceEqDiff,Int.reduceLT,Int.reduceLE,reduceCtorEq,Nat.zero_add,decide_true,Bool.false_eq_true,dV,f3_103e,f3_104e,f3_105e,f3_105l,f3_106e,f3_107e,f3_108e,f3_109e,f3_110e,f3_111e,f3_111h,f3_111l,a7,lW]
              refine fM rfl e_f22 (hh _) rfl ?_
              simp (config:=KF) (disch:=omega) only [bZ,dR,ca,dz,cQ,el,d7,dG,ey,bw,bY,and_self,aj,aU,AI.dst,aw,aK,ag,c8,af,ai,bj,aG,ixSV,am,ixA,addA,ae,aB,aQ,ev_f,putS,Sf.set,Sf.reg,getR,setR,aa,look,id,ar,ak,List.length_cons,List.length_nil,List.getD_cons_zero,List.drop_zero,List.drop_succ_cons,Int.toNat_zero,Int.cast_ofNat_Int,↓reduceIte,Nat.reduceEqDiff,Int.reduceLT,Int.reduceLE,reduceCtorEq,Nat.zero_add,decide_true,Bool.false_eq_true,f3_112e,f3_115e,f3_115l]
              refine aE rfl e_f23 (hwo _) rfl ?_
              simp (config:=KF) (disch:=omega) only [bZ,bh,aA,aP,bJ,cH,bU,ag,af,bd,al,am,lenI,addA,ae,cV,aW,putS,Sf.set,Sf.reg,getR,setR,aa,Sf.disAt,look,ar,List.length_cons,List.length_nil,List.drop_zero,List.drop_succ_cons,Int.cast_ofNat_Int,↓reduceIte,Nat.reduceEqDiff,Int.reduceLT,reduceCtorEq,Nat.zero_add,decide_false,IntWalk.i64_in,Int.zero_add,f3_103e,f3_104e,f3_105e,f3_105l,f3_106e,f3_116e,f3_116l,a7]
              exact hf
            · simp (config:=KF) (disch:=omega) only [bZ,and_self,aj,aU,AI.dst,aX,aw,aK,o_un,bI,ag,c8,af,bd,al,bj,aG,extV,ixSV,am,ixA,lenI,addA,ae,unA,bz,bW,bQ,aB,aQ,putS,Sf.set,Sf.reg,getR,setR,aa,Sf.disAt,look,ar,aT,aJ,ak,List.length_cons,List.length_nil,List.getElem?_cons_zero,List.getElem?_cons_succ,List.getD_cons_zero,List.drop_zero,List.drop_succ_cons,Int.toNat_zero,Int.cast_ofNat_Int,↓reduceIte,Nat.reduceEqDiff,Int.reduceLT,Int.reduceLE,reduceCtorEq,Nat.zero_add,not_true_eq_false,decide_true,decide_false,Bool.not_true,Bool.false_eq_true,a9,f3_88e,f3_89e,f3_90e,f3_90l,f3_91e,f3_93e,f3_94e,f3_95e,f3_95l,f3_96e,f3_99e,f3_100e,f3_100l,f3_101e,he]
              rw [f3_102w]
              refine bC 2 ?_
              simp (config:=KF) (disch:=omega) only [bZ,List.contains_nil,ca,dz,cQ,eI,cf,eU,ce,fc,eJ,da,bw,and_self,AI.dst,ag,af,bd,ixSV,am,ixA,lenI,addA,ae,aW,bQ,aB,aQ,ev_f,putS,Sf.set,Sf.reg,getR,setR,aa,look,bO,id,ar,ak,List.length_cons,List.length_nil,List.getD_cons_zero,List.drop_zero,List.drop_succ_cons,Int.toNat_zero,Int.cast_ofNat_Int,↓reduceIte,Nat.reduceEqDiff,Int.reduceLT,Int.reduceLE,reduceCtorEq,Nat.zero_add,decide_true,Bool.false_eq_true,dV,f3_103e,f3_104e,f3_105e,f3_105l,f3_106e,f3_107e,f3_108e,f3_109e,f3_110e,f3_111e,f3_111h,f3_111l,a7,lW]
              refine fM rfl e_f22 (hh _) rfl ?_
              simp (config:=KF) (disch:=omega) only [bZ,dR,ca,dz,cQ,el,d7,dG,ey,bw,bY,and_self,aj,aU,AI.dst,aw,aK,ag,c8,af,ai,bj,aG,ixSV,am,ixA,addA,ae,aB,aQ,ev_f,putS,Sf.set,Sf.reg,getR,setR,aa,look,id,ar,ak,List.length_cons,List.length_nil,List.getD_cons_zero,List.drop_zero,List.drop_succ_cons,Int.toNat_zero,Int.cast_ofNat_Int,↓reduceIte,Nat.reduceEqDiff,Int.reduceLT,Int.reduceLE,reduceCtorEq,Nat.zero_add,decide_true,Bool.false_eq_true,f3_112e,f3_115e,f3_115l]
              refine aE rfl e_f23 (hwo _) rfl ?_
              simp (config:=KF) (disch:=omega) only [bZ,bh,aA,aP,bJ,cH,bU,ag,af,bd,al,am,lenI,addA,ae,cV,aW,putS,Sf.set,Sf.reg,getR,setR,aa,Sf.disAt,look,ar,List.length_cons,List.length_nil,List.drop_zero,List.drop_succ_cons,Int.cast_ofNat_Int,↓reduceIte,Nat.reduceEqDiff,Int.reduceLT,reduceCtorEq,Nat.zero_add,decide_false,IntWalk.i64_in,Int.zero_add,f3_103e,f3_104e,f3_105e,f3_105l,f3_106e,f3_116e,f3_116l,a7]
              exact hf
end
end Go.Fx.YtphaaebhgggbaaaFx

