/- What the functions that the statement reaches compute: part 10. -/
import Derived.Test.YtddifejdkiemgaaFxW9
namespace Go.Fx.YtddifejdkiemgaaFx
open Go Go.Fx
attribute [local irreducible] aC runI dg ep

set_option maxRecDepth 100000
set_option maxHeartbeats 4000000

theorem ints_nb (l:List Int):(AV.sl false 1 (ints l)).NB:=.sl _ _ _ (ints_lits l).nb
def gJ (L:Qu):List Int:=L.map fun x=>x.2
/-- A list that is grown, and the one that is read. -/
def gAV (l:List Int):AV:=if l = [] then .lit (.slice none 0 0) else .sl true 1 (ints l)
def lAV (l:List Int):AV:=if l = [] then .lit (.slice none 0 0) else .sl false 1 (ints l)
theorem rG (l:List Int):(gAV l = .lit (.slice none 0 0)∧l = [])∨(gAV l = .sl true 1 (ints l)∧l≠[]):=by
  unfold gAV
  by_cases h:l = []
  · rw [if_pos h]; exact .inl ⟨rfl,h⟩
  · rw [if_neg h]; exact .inr ⟨rfl,h⟩

theorem lAV_le (l:List Int):(lAV l).le (.sl false 1 (ints l)):=by
  unfold lAV
  split
  · rename_i h; subst h; exact .nil _ _
  · exact .refl _

theorem clip_pure (l:List Int) (hl:l.length≤1000000) (st:St):dJ Go.Proofs.Try.prog n_f60 [.sl false 1 (ints l)] st (.sl false 1 (ints l)):=by
  refine pure_lev hmix k_f60 rfl rfl (ints_nb l) (fun v hv=>by simp at hv; subst hv; exact ints_nb l) (fun Q hQ=>?_) st
  unfold aFun c_f60
  have hll:=eZ l
  by_cases h:l = []
  · subst h
    simp (config:=KF) (disch:=omega) only [bZ,and_self,retI,o_sli3,er,bH,sli3V,sl3,ixTo,lenI,cE,eY,putS,Sf.set,Sf.reg,getR,setR,aD,Sf.disAt,da,di,r9,List.length_nil,Option.map_some,Option.map_none,List.drop_zero,List.take_zero,Int.toNat_zero,Int.cast_ofNat_Int,↓reduceIte,Nat.reduceEqDiff,Int.reduceLE,Bool.true_and,true_and,reduceCtorEq,decide_true,f60_1e,f60_2e,f60_2l,f60_3e,f60_4e,f60_4l,ints]
    exact hQ _ _ (.own _ _)
  · have h0:0 < l.length:=List.length_pos_iff.2 h
    have h1:¬ l.length = 0:=by omega
    simp (config:=KF) (disch:=omega) only [bZ,retI,o_sli3,er,bH,sli3V,sl3,ixTo,lenI,cE,putS,Sf.set,Sf.reg,getR,setR,aD,Sf.disAt,da,di,r9,Option.map_some,Option.map_none,List.drop_zero,Int.toNat_natCast,↓reduceIte,Nat.reduceEqDiff,Bool.true_and,true_and,reduceCtorEq,dC,if_neg,dI,f60_1e,f60_2e,f60_2l,f60_3e,f60_4e,f60_4l,hll]
    exact hQ _ _ (by first | exact .refl _ | (rw [List.take_of_length_le (by omega)]; exact .refl _))
theorem clip_l (l:List Int) (hl:l.length≤1000000) (st:St):dJ Go.Proofs.Try.prog n_f60 [lAV l] st (.sl false 1 (ints l)) :=
  (clip_pure l hl st).weak ⟨lAV_le l,trivial⟩ (.refl _)

/-- What is kept around the loop. -/
structure WaJ (st0:St) (id:Nat) (r:Loop) (rs:List (Nat×AV)) (bw o q mid g:Nat) (L:Qu) (i:Nat) (st:St):Prop where
  lp:st.isLp id r rs
  w:st.get bw = some [gAV ((gJ L).take i)]
  o:st.get o = some [.ptr q 0]
  q:QIs st q mid L g
  old:∀ id,id < st0.boxes.length→st.boxes[id]? = st0.boxes[id]?

theorem io {st0:St} {b q mid wid g:Nat} {sz nw:Int} {H:List Int} {V:List Vt} (h:SmIs st0 b q mid wid sz nw H V g):dt Go.Proofs.Try.prog n_f34 [.ptr b 0] st0
    (fun r st'=>r = .sl false 1 (ints (vtk V))∧st0.boxes.length≤st'.boxes.length∧∀ id,id < st0.boxes.length→st'.boxes[id]? = st0.boxes[id]?):=by
  have hg:=h.get
  have hlt:=h.lts
  have lb:=hlt b (by simp)
  have h64:=rI (q:=q) (wid:=wid) h.hl
  obtain ⟨W,hW,hqi,_⟩:=h.qi
  have hcn:=h.cnt
  obtain ⟨L,hL⟩:∃ L,L = quW W:=⟨_,rfl⟩
  rw [← hL] at hqi
  have hcv:gJ L = vtk V:=by rw [hL,← hW]; simp [gJ,quW,vtk,noT]
  have hb:L.length < 100000:=by
    have:(gJ L).length = L.length:=by simp [gJ]
    rw [hcv] at this
    have:(vtk V).length = V.length:=by simp [vtk]
    omega
  refine dN hmix k_f34 rfl rfl fun Q hQ=>?_
  unfold aFun c_f34
  simp (config:=KF) (disch:=omega) only [bZ,aI,ev_f,putS,Sf.set,Sf.reg,getR,setR,aD,da,id,↓reduceIte,Nat.reduceEqDiff,reduceCtorEq,f34_1e,f34_2e,f34_2l,f34_3e,f34_4e,f34_5e,f34_5l]
  refine cF rfl e_f59 h.z rfl ?_
  simp (config:=KF) (disch:=omega) only [bZ,cf,ca,ce,o_newB,bK,cB,addA,a8,putS,Sf.set,Sf.reg,getR,setR,aD,↓reduceIte,Nat.reduceEqDiff,Bool.true_and,true_and,reduceCtorEq,Nat.zero_add,iW,f34_6e,f34_9e,f34_10e,f34_10l,f34_11e,f34_12e,f34_13e,f34_13l]
  have h1:QIs (st0.push (.cells [.lit (.slice none 0 0)])) q mid L g:=hqi.at (e9 (hlt q (by simp))) (e9 (hlt mid (by simp)))
  have hg1:(st0.push (.cells [.lit (.slice none 0 0)])).get b = some (smC sz (sz - H.sum) nw H q wid):=(iB (e9 lb)).trans hg
  simp (config:=KF) (disch:=omega) only [bZ,aI,ev_f,putS,Sf.set,Sf.reg,getR,setR,id,List.drop_succ_cons,↓reduceIte,Nat.reduceEqDiff,reduceCtorEq,hg,h64]
  refine du rfl e_f49 (qall_calls h1) rfl fun x st1 hx=>?_
  obtain ⟨o,q',mid',rfl,ho,hq,l1,l2,l3,l4,hold⟩:=hx
  simp only [eB] at l1 l2 l3 l4 hold
  have hw:st1.get st0.boxes.length = some [.lit (.slice none 0 0)]:=(iB (hold _ (by omega))).trans (gp ..)
  have hol:∀ id,id < st0.boxes.length→st1.boxes[id]? = st0.boxes[id]?:=fun id hid=>by rw [hold id (by omega),e9 hid]
  have hoL:=fA ho
  have hqL:=hq.ltq
  have hmL:=hq.ltm
  simp (config:=KF) (disch:=omega) only [bZ,putS,Sf.set,getR,setR,aD,↓reduceIte,Nat.reduceEqDiff,reduceCtorEq,f34_14e]
  rw [f34_15w]
  refine ⟨rfl,range_a e_f69 fun r hy=>?_⟩
  simp (config:=KF) (disch:=omega) only [bZ,getR,rC,qa,keep_eq,dis_any,noL_any,ng,↓reduceIte,Nat.reduceEqDiff] at hy
  simp (config:=KF) (disch:=omega) only [bZ,getR,rC,qa,keep_eq,dis_any,noL_any,ng,List.nil_append,List.cons_append,↓reduceIte,Nat.reduceEqDiff]
  obtain ⟨rs,hrs⟩:∃ rs,rs = [(3,AV.ptr st0.boxes.length 0),(14,AV.any)]:=⟨_,rfl⟩
  have hsr:∀ x y:AV,kB rs [13,14] [x,y] = [(3,AV.ptr st0.boxes.length 0),(14,y.dis),(13,x.dis)]:=fun x y=>by rw [hrs]; simp (config:=KF) (disch:=omega) only [setR,setRs_nil,setRs_cons,↓reduceIte,Nat.reduceEqDiff]
  rw [← hrs] at hy ⊢
  have b3:∀ id,id < st1.boxes.length→(st1.push (.lp r rs)).boxes[id]? = st1.boxes[id]?:=fun id hid=>e9 hid
  refine ⟨_,iter_calls (o:=o) (q:=q') (mid:=mid') (g:=g) (L:=L) st1.boxes.length (WaJ st0 st1.boxes.length r rs st0.boxes.length o q' mid' g L) (fun _=>False) (fun i st' hJ=>⟨hJ.o,hJ.q⟩) (fun i hi st' hJ=>?_) ?_,fun v st' hQc=>?_⟩
  · refine round_a hy hJ.lp rfl ?_
    have hne:∀ {b:Nat} {cs:List AV},st'.get b = some cs→b≠st1.boxes.length:=fun {b cs} hb e=>by
      subst e
      have h1:=hJ.lp
      unfold St.isLp at h1
      unfold St.get at hb
      rw [h1] at hb; cases hb
    have hset:∀ (r':Loop) (b:Nat),b≠st1.boxes.length→(st'.setL st1.boxes.length r' rs).get b = st'.get b:=fun r' b hb=>iB (nr hb)
    have gw:=(hset (fO r) _ (hne hJ.w)).trans hJ.w
    have nw:=hne hJ.w
    have no:=hne hJ.o
    have nq:=hne hJ.q.get
    have nm:mid'≠st1.boxes.length:=by omega
    have hlen:(gJ L).length = L.length:=by simp [gJ]
    have hx:L[i].2 = (gJ L)[i]'(by omega):=by simp [gJ]
    have htk:(gJ L).take (i + 1) = (gJ L).take i++[L[i].2]:=by rw [List.take_succ_eq_append_getElem (by omega),hx]
    have htl:((gJ L).take i).length = i:=by simp; omega
    have hlp2:(st'.setL st1.boxes.length (fO r) rs).isLp st1.boxes.length (fO r) rs:=rD hJ.lp
    have gw2:=fA gw
    have hfin:∀ X,X = gAV ((gJ L).take (i + 1))→((st'.setL st1.boxes.length (fO r) rs).set st0.boxes.length [X]).isLp st1.boxes.length (fO r) rs∧WaJ st0 st1.boxes.length r rs st0.boxes.length o q' mid' g L (i + 1) (((st'.setL st1.boxes.length (fO r) rs).set st0.boxes.length [X]).setL st1.boxes.length r rs):=fun X hX=>by
      have hl3:((st'.setL st1.boxes.length (fO r) rs).set st0.boxes.length [X]).isLp st1.boxes.length (fO r) rs:=isLp_at hlp2 (lg (fun e=>nw e.symm))
      have hb:∀ b,b≠st1.boxes.length→b≠st0.boxes.length→(((st'.setL st1.boxes.length (fO r) rs).set st0.boxes.length [X]).setL st1.boxes.length r rs).boxes[b]? = st'.boxes[b]?:=fun b h1 h2=>by
        rw [nr h1,lg h2,nr h1]
      refine ⟨hl3,rD hl3,?_,?_,?_,fun id hid=>?_⟩
      · rw [iB (nr nw),← hX]; exact el gw2
      · rw [iB (hb _ no (by omega))]; exact hJ.o
      · exact hJ.q.at (hb _ nq (by omega)) (hb _ nm (by omega))
      · rw [hb _ (by omega) (by omega)]; exact hJ.old id hid
    rw [hsr]
    have hnz:∀ l:List Int,∀ x:Int,gAV (l++[x]) = .sl true 1 (ints l++[.lit (.int .i64 x)]):=fun l x=>by unfold gAV; rw [if_neg (by simp),ints_app]; rfl
    rcases rG ((gJ L).take i) with ⟨e,hz⟩ | ⟨e,hz⟩
    · rw [e] at gw
      rw [hz] at htk
      simp (config:=KF) (disch:=omega) only [bZ,Bool.or_false,and_self,bG,pW,rp,bH,o_appS,dT,bK,bslV,na,appSX,boxX,d9,List.isEmpty_cons,List.reduceReplicate,a8,jF,ko,srcA,iL,eY,dG,dH,putS,Sf.set,Sf.reg,getR,setR,aD,Sf.disAt,la,oH,di,cN,cells_sl,bU,ru,cR,List.length_cons,List.length_nil,List.getElem?_cons_zero,List.all_cons,List.all_nil,List.drop_zero,List.set_cons_zero,↓reduceIte,Nat.reduceEqDiff,Nat.reduceLT,Nat.reduceLeDiff,Bool.true_and,Bool.and_true,and_true,true_and,reduceCtorEq,Nat.zero_add,or_false,Bool.false_eq_true,room_of,el,cD,b4,np,f34_16e,f34_16l,f34_17e,f34_18e,f34_18l,gw]
      exact ⟨hJ.lp,hfin _ (by first | (rw [htk,hnz]; done) | (rw [htk,hnz]; rfl))⟩
    · rw [e] at gw
      have hil:=eZ ((gJ L).take i)
      simp (config:=KF) (disch:=omega) only [bZ,Bool.or_false,and_self,bG,pW,rp,bH,o_appS,dT,bK,bslV,na,appSX,boxX,d9,List.reduceReplicate,a8,jF,ko,srcA,iL,wp_fail,eY,dG,dH,putS,Sf.set,Sf.reg,getR,setR,aD,Sf.disAt,la,oH,di,cN,cells_sl,bU,ru,cR,List.length_cons,List.length_nil,List.getElem?_cons_zero,List.all_cons,List.all_nil,List.drop_zero,List.set_cons_zero,↓reduceIte,Nat.reduceEqDiff,Nat.reduceLT,Nat.reduceLeDiff,Bool.true_and,Bool.and_true,and_true,true_and,reduceCtorEq,Nat.zero_add,or_false,Bool.false_eq_true,room_of,el,cD,b4,np,f34_16e,f34_16l,f34_17e,f34_18e,f34_18l,gw]
      exact ⟨hJ.lp,hfin _ (by first | (rw [htk,hnz]; done) | (rw [htk,hnz]; rfl))⟩
  · refine ⟨push_isLp ..,?_,?_,?_,fun id hid=>?_⟩
    · rw [iB (b3 _ (by omega))]; exact hw
    · rw [iB (b3 _ (by omega))]; exact ho
    · exact hq.at (b3 _ (by omega)) (b3 _ (by omega))
    · rw [b3 _ (by omega)]; exact hol id hid
  · rcases hQc with hJ | hf
    · left
      refine ⟨hJ.lp,?_⟩
      have hne:∀ {b:Nat} {cs:List AV},st'.get b = some cs→(st'.drop st1.boxes.length).get b = some cs:=fun {b cs} hb=>(iB (oI (fun e=>by
        subst e
        have h1:=hJ.lp
        unfold St.isLp at h1
        unfold St.get at hb
        rw [h1] at hb; cases hb))).trans hb
      have gw:=hne hJ.w
      have hll:(gJ L).take L.length = gJ L:=List.take_of_length_le (by simp [gJ])
      rw [hll] at gw
      have hold2:∀ id,id < st0.boxes.length→(st'.drop st1.boxes.length).boxes[id]? = st0.boxes[id]?:=fun id hid=>by rw [oI (by omega)]; exact hJ.old id hid
      have hle:st0.boxes.length≤(st'.drop st1.boxes.length).boxes.length:=by
        have:=fA gw; omega
      have hcnl:(gJ L).length = L.length:=by simp [gJ]
      have hcl:=clip_l (gJ L) (by omega) (st'.drop st1.boxes.length)
      rw [hcv] at hcl gw
      have hfin:=hQ _ _ ⟨rfl,hle,hold2⟩
      rcases rG (vtk V) with ⟨e,hz⟩ | ⟨e,hz⟩
      · rw [e] at gw
        rw [show lAV (vtk V) = .lit (.slice none 0 0) by unfold lAV; rw [if_pos hz]] at hcl
        simp (config:=KF) (disch:=omega) only [bZ,bG,ca,aI,bK,a8,ev_f,putS,Sf.set,Sf.reg,getR,setR,aD,id,List.drop_zero,↓reduceIte,Nat.reduceEqDiff,f34_19e,f34_20e,f34_20l,gw]
        refine cF rfl e_f60 hcl rfl ?_
        simp (config:=KF) (disch:=omega) only [bZ,retI,bH,putS,Sf.set,Sf.reg,getR,setR,aD,Sf.disAt,di,r9,↓reduceIte,Nat.reduceEqDiff,Bool.true_and,true_and]
        exact hfin
      · rw [e] at gw
        rw [show lAV (vtk V) = .sl false 1 (ints (vtk V)) by unfold lAV; rw [if_neg hz]] at hcl
        simp (config:=KF) (disch:=omega) only [bZ,bG,ca,aI,bK,a8,ev_f,putS,Sf.set,Sf.reg,getR,setR,aD,id,di,List.drop_zero,↓reduceIte,Nat.reduceEqDiff,f34_19e,f34_20e,f34_20l,gw]
        refine cF rfl e_f60 hcl rfl ?_
        simp (config:=KF) (disch:=omega) only [bZ,retI,bH,putS,Sf.set,Sf.reg,getR,setR,aD,Sf.disAt,di,r9,↓reduceIte,Nat.reduceEqDiff,Bool.true_and,true_and]
        exact hfin
    · exact hf.elim
end Go.Fx.YtddifejdkiemgaaFx

