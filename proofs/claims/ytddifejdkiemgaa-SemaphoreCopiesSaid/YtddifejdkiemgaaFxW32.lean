/- What the functions that the statement reaches compute: part 32. -/
import Derived.Test.YtddifejdkiemgaaFxW31
namespace Go.Fx.YtddifejdkiemgaaFx
open Go Go.Fx
attribute [local irreducible] aC runI a9 cd

set_option maxRecDepth 100000
set_option maxHeartbeats 8000000

section
variable {st:St} {b q mid wid g:Nat} {sz nw:Int} {H:List Int} {V:List Vt}
theorem SmIs.gsub (h:SmIs st b q mid wid sz nw H V g) {s:St} {S:List Nat} (hs:GSub st s S) (hd:∀ i ∈ [b,q,mid,wid],i ∉ S):SmIs s b q mid wid sz nw H V g:=by
  have key:∀ i cs,i ∉ S→st.get i = some cs→s.boxes[i]? = st.boxes[i]?:=fun i cs hn hg=>by
    have hb:st.boxes[i]? = some (some (.cells cs)):=by
      unfold St.get at hg
      split at hg
      · rename_i hb; cases hg; exact hb
      · cases hg
    rw [hs.2 i _ hn hb,hb]
  have keym:∀ i es,i ∉ S→st.getM i = some es→s.boxes[i]? = st.boxes[i]?:=fun i es hn hg=>by
    unfold St.getM at hg
    split at hg
    · rename_i hb; rw [hs.2 i _ hn hb,hb]
    · cases hg
  obtain ⟨W,h1,h2,m,hm,hl⟩:=h.qi
  obtain ⟨m2,hm2,_⟩:=h2.mp
  refine h.at fun i hi=>?_
  have hdi:=hd i hi
  simp only [List.mem_cons,List.not_mem_nil,or_false] at hi
  rcases hi with rfl | rfl | rfl | rfl
  · exact key _ _ hdi h.get
  · exact key _ _ hdi h2.get
  · exact keym _ _ hdi hm2.get
  · exact keym _ _ hdi hm.get
end

/-- What is left when both are there. -/
theorem copies_tail {st:St} {b q mid wid g:Nat} {sz nw:Int} {H:List Int} {V:List Vt} (h:SmIs st b q mid wid sz nw H V g) (hg0:g≤20) (l r:List St5) (hl:l.length≤20) (hr:r.length≤20) (hdl:∀ a ∈ l,0≤a.2.2.2∧a.2.2.2≤nev) (hdr:∀ a ∈ r,0≤a.2.2.2∧a.2.2.2≤nev) (Q:AV→St→Prop) (hQ:∀ st',Q (.lit (.bool true)) st') :
    aC Go.Proofs.Try.prog id false f11_21 ⟨[(2,ssAV l),(3,ssAV r),(9,.ptr b 0),(11,.lptr 11 0),(13,.lit (.bool true))],[(11,rfC sz nw H V)]⟩ st (retQ [RI.tmp 8] Q):=by
  have f1:=fun H V=>cz (H:=H) (V:=V)
  have f2:=fun H V=>co (H:=H) (V:=V)
  have f3:=bL (V:=V) h.hl
  have f6:=bW (V:=V) h.hl
  have hlt:=h.lts
  unfold ssAV
  simp (config:=KF) (disch:=omega) only [bZ,au,ev_f,putS,Sf.set,Sf.reg,getR,setR,id,↓reduceIte,Nat.reduceEqDiff,f11_21e,f11_22e,f11_22l]
  refine bE rfl e_f44 (scopy_calls h) rfl fun r1 st2 hr1=>?_
  obtain ⟨n,hn,rfl,t2,hl2,hk2⟩:=hr1
  have s2:SmIs st2 b q mid wid sz nw H V g:=h.at fun i hi=>hk2 i (hlt i hi)
  simp (config:=KF) (disch:=omega) only [bZ,ao,AI.dst,aD,aI,o_un,ap,aw,au,aW,aq,gZ,ez,dn,aj,ai,unA,ak,aA,ev_f,putS,Sf.set,Sf.reg,getR,setR,ae,Sf.disAt,look,id,ah,aa,List.length_cons,List.drop_zero,List.take_succ_cons,↓reduceIte,Nat.reduceEqDiff,Nat.reduceAdd,Nat.reduceLeDiff,decide_true,Bool.not_true,Bool.false_eq_true,f11_23e,f11_24e,f11_25e,f11_25l,f1,f3,f6]
  refine bE (vs:=[.ptr n 0,rfAV sz nw H V]) (by simp only [List.map_cons,List.map_nil,List.nil_append,List.append_nil,ah,aa,eP,f1]) e_f32 (gc t2) rfl fun r1 st3 hr1=>?_
  obtain ⟨rfl,b1,b2⟩:=hr1
  have s3:=s2.sub b1
  have t3:=t2.sub b1
  simp (config:=KF) (disch:=omega) only [bZ,ao,AI.dst,aD,aI,o_un,ap,au,aW,aq,aj,ai,unA,ak,aA,ev_f,putS,Sf.set,Sf.reg,getR,setR,ae,look,id,br,ah,aa,List.length_cons,List.drop_zero,List.take_succ_cons,↓reduceIte,Nat.reduceEqDiff,Nat.reduceAdd,Nat.reduceLeDiff,decide_true,Bool.not_true,Bool.false_eq_true,f11_26e,f11_29e,f11_30e,f11_30l,f1,f3,f6]
  have hp1:=iM s3 l (by omega) (by omega) hdl
  unfold ssAV at hp1
  refine bE (vs:=[.ptr b 0,rfAV sz nw H V,.sl false 4 (l.map saAV)]) (by simp only [List.map_cons,List.map_nil,List.nil_append,List.append_nil,ah,aa,eP,br,f1]) e_f33 hp1 rfl fun r1 st4 hr1=>?_
  obtain ⟨nw4,H4,V4,g4,rfl,s4,_,c4⟩:=hr1
  have t4:=t3.gsub c4 fun i hi hx=>by
    have:=hlt i hx
    simp only [List.mem_cons,List.not_mem_nil,or_false] at hi
    omega
  have p3:=bL (V:=V4) s4.hl
  have p6:=bW (V:=V4) s4.hl
  have p7:=dF (V:=V4) s4.hl
  simp (config:=KF) (disch:=omega) only [bZ,cy,ap,aw,bA,aH,au,extV,aq,boxX,aU,aj,ai,ak,aA,ev_f,ar,aG,putS,Sf.set,Sf.reg,getR,setR,ae,Sf.disAt,Sf.newLoc,Sf.setLoc,look,bt,aM,id,br,ah,bS,aa,bC,cq,ag,af,al,aF,cb,aV,eQ,aB,cC,List.length_cons,List.length_nil,List.getElem?_cons_zero,List.getElem?_cons_succ,List.all_cons,List.drop_zero,List.take_succ_cons,List.set_cons_zero,List.set_cons_succ,↓reduceIte,Nat.reduceEqDiff,Nat.reduceAdd,Nat.reduceLeDiff,Bool.true_and,Bool.and_true,and_true,true_and,Nat.zero_add,decide_true,am,f11_31e,f11_32e,f11_32l,f1,f2,f3,f6,p3,p7]
  have hp2:=iM t4 r (by omega) (by omega) hdr
  unfold ssAV at hp2
  refine bE (vs:=[.ptr n 0,rfAV sz nw H V,.sl false 4 (r.map saAV)]) (by simp only [List.map_cons,List.map_nil,List.nil_append,List.append_nil,ah,aa,eP,br,f1]) e_f33 hp2 rfl fun r1 st5 hr1=>?_
  obtain ⟨nw5,H5,V5,g5,rfl,t5,_,c5⟩:=hr1
  have s5:=s4.gsub c5 fun i hi hx=>by
    have:=hlt i hi
    simp only [List.mem_cons,List.not_mem_nil,or_false] at hx
    omega
  have q3:=bL (V:=V5) t5.hl
  have q6:=bW (V:=V5) t5.hl
  have q7:=dF (V:=V5) t5.hl
  simp (config:=KF) (disch:=omega) only [bZ,ao,AI.dst,bj,aI,cy,ap,aw,bA,aH,au,ba,extV,aq,boxX,aU,aj,ai,ak,aA,ev_f,ar,aG,putS,Sf.set,Sf.reg,getR,setR,ae,Sf.disAt,Sf.newLoc,Sf.setLoc,look,bt,aM,id,ah,bS,aa,bC,cq,ag,af,al,aF,cb,aV,eQ,aB,cC,List.length_cons,List.length_nil,List.getElem?_cons_zero,List.getElem?_cons_succ,List.all_cons,List.drop_zero,List.take_succ_cons,List.set_cons_zero,List.set_cons_succ,↓reduceIte,Nat.reduceEqDiff,Nat.reduceAdd,Nat.reduceLeDiff,Bool.true_and,Bool.and_true,and_true,true_and,Nat.zero_add,decide_true,am,f11_33e,f11_34e,f11_34l,f1,f2,p3,p6,q3,q7]
  refine bE (vs:=[.ptr b 0,rfAV sz nw4 H4 V4]) (by simp only [List.map_cons,List.map_nil,List.nil_append,List.append_nil,ah,aa,eP,f1]) e_f32 (gc s5) rfl fun r1 st6 hr1=>?_
  obtain ⟨rfl,b3,_⟩:=hr1
  simp (config:=KF) (disch:=omega) only [bZ,ao,AI.dst,bj,aI,ap,au,ba,aq,aj,ai,ak,aA,ev_f,putS,Sf.set,Sf.reg,getR,setR,look,id,ah,aa,List.length_cons,List.drop_zero,List.take_succ_cons,↓reduceIte,Nat.reduceEqDiff,Nat.reduceAdd,Nat.reduceLeDiff,decide_true,f1,q3,q6]
  refine bE (vs:=[.ptr n 0,rfAV sz nw5 H5 V5]) (by simp only [List.map_cons,List.map_nil,List.nil_append,List.append_nil,ah,aa,eP,f1]) e_f32 (gc (t5.sub b3)) rfl fun r1 st7 hr1=>?_
  obtain ⟨rfl,_,_⟩:=hr1
  simp (config:=KF) (disch:=omega) only [bZ,ao,AI.dst,bj,aI,au,ba,ev_f,putS,Sf.set,Sf.reg,getR,setR,id,↓reduceIte,Nat.reduceEqDiff]
  refine bE rfl e_f31 (kg _) rfl fun r st1 hr=>?_
  subst hr
  simp (config:=KF) (disch:=omega) only [bZ,retI,aI,aw,ba,putS,Sf.set,Sf.reg,getR,setR,ae,Sf.disAt,↓reduceIte,Nat.reduceEqDiff,Bool.true_and,true_and]
  exact hQ _

theorem jc (sz:Int) (f l r:List St5) (hdf:∀ a ∈ f,0≤a.2.2.2∧a.2.2.2≤nev) (hdl:∀ a ∈ l,0≤a.2.2.2∧a.2.2.2≤nev) (hdr:∀ a ∈ r,0≤a.2.2.2∧a.2.2.2≤nev):bz Go.Proofs.Try.prog n_f11 [.lit (.int .i64 sz),ssAV f,ssAV l,ssAV r] ⟨[]⟩ (fun v _=>v = .lit (.bool true)):=by
  refine bB hmix k_f11 rfl rfl fun Q hQ=>?_
  unfold aFun c_f11
  have hQ':∀ st',Q (.lit (.bool true)) st':=fun st'=>hQ _ _ rfl
  have hmf:(f.map saAV).length = f.length:=by simp
  have hml:(l.map saAV).length = l.length:=by simp
  have hmr:(r.map saAV).length = r.length:=by simp
  by_cases hb:sz < 1∨1048576 < sz
  · have hb':sz < 1∨1048576 < sz∨(5:Int) = nev:=by omega
    unfold ssAV
    simp (config:=KF) (disch:=omega) only [bZ,au,ev_f,putS,Sf.set,Sf.reg,getR,setR,ae,aO,id,br,↓reduceIte,Nat.reduceEqDiff,Nat.reduceAdd,reduceCtorEq,Nat.zero_add,f11_1e,f11_2e,f11_2l,f11_3e,f11_4e,f11_4l]
    refine aL rfl e_f29 (snew_err hb' _) rfl ?_
    simp (config:=KF) (disch:=omega) only [bZ,cy,aw,au,extV,ev_f,putS,Sf.set,Sf.reg,getR,setR,ae,Sf.disAt,id,bS,bC,List.getElem?_cons_zero,List.getElem?_cons_succ,↓reduceIte,Nat.reduceEqDiff,reduceCtorEq,f11_5e,f11_6e,f11_6l]
    have hre:=rnew_err hb' ⟨[]⟩
    simp only [rfAV,rfC,ow] at hre
    refine aL rfl e_f30 hre rfl ?_
    by_cases h1:20 < f.length <;> by_cases h2:20 < l.length <;> by_cases h3:20 < r.length
    all_goals
      simp (config:=KF) (disch:=omega) only [bZ,ao,bY,AI.dst,bj,aD,aI,cy,ce,aw,bA,aH,au,ba,aW,extV,boxX,aU,lenI,ci,cA,cr,ev_f,ar,aG,putS,Sf.set,Sf.reg,getR,setR,ae,Sf.disAt,Sf.newLoc,Sf.setLoc,look,bt,aM,id,br,ah,bS,aa,bC,cq,ag,af,al,aF,eQ,aB,cC,List.length_cons,List.length_nil,List.getElem?_cons_zero,List.getElem?_cons_succ,List.all_cons,List.all_nil,List.set_cons_zero,List.set_cons_succ,↓reduceIte,Nat.reduceEqDiff,Nat.reduceAdd,Nat.reduceLeDiff,Int.reduceEq,Bool.true_and,Bool.and_true,and_true,true_and,reduceCtorEq,Nat.zero_add,not_false_eq_true,decide_true,Bool.false_eq_true,cc,bk,aQ,am,f11_7e,f11_8e,f11_9e,f11_9l,f11_10e,f11_11e,f11_12e,f11_12l,hmf,hml,hmr]
      refine bE rfl e_f31 (kg _) rfl fun r st1 hr=>?_
      subst hr
      simp (config:=KF) (disch:=omega) only [bZ,retI,aI,aw,ba,putS,Sf.set,Sf.reg,getR,setR,ae,Sf.disAt,↓reduceIte,Nat.reduceEqDiff,Bool.true_and,true_and]
      exact hQ' _
  have h1:1≤sz∧sz≤1048576:=by omega
  have h2:(5:Int) < nev:=by decide
  have hpl:=fun b q mid wid g st0 h0 h1=>iM (b:=b) (q:=q) (mid:=mid) (wid:=wid) (sz:=sz) (nw:=5) (H:=List.replicate 64 0) (V:=[]) (g:=g) (st:=st0) h0 f h1
  have htl:=fun st b q mid wid g nw H V h=>copies_tail (st:=st) (b:=b) (q:=q) (mid:=mid) (wid:=wid) (g:=g) (sz:=sz) (nw:=nw) (H:=H) (V:=V) h
  unfold ssAV at hpl htl ⊢
  simp (config:=KF) (disch:=omega) only [bZ,au,ev_f,putS,Sf.set,Sf.reg,getR,setR,ae,aO,id,br,↓reduceIte,Nat.reduceEqDiff,Nat.reduceAdd,reduceCtorEq,Nat.zero_add,f11_1e,f11_2e,f11_2l,f11_3e,f11_4e,f11_4l]
  refine bE rfl e_f29 (m9 h1 ⟨by omega,h2⟩ _) rfl fun r1 st0 hr=>?_
  obtain ⟨rfl,h0,_⟩:=hr
  generalize (St.boxes ⟨[]⟩).length + 3 = b at *
  generalize (St.boxes ⟨[]⟩).length + 1 = q at *
  generalize (St.boxes ⟨[]⟩).length + 2 = wid at *
  simp (config:=KF) (disch:=omega) only [bZ,cy,aw,au,extV,ev_f,putS,Sf.set,Sf.reg,getR,setR,ae,Sf.disAt,id,bS,bC,own2_ptr,List.getElem?_cons_zero,List.getElem?_cons_succ,↓reduceIte,Nat.reduceEqDiff,reduceCtorEq,f11_5e,f11_6e,f11_6l]
  have hpl:=hpl b q _ wid 0 st0 h0
  obtain ⟨H,hH⟩:∃ H,H = List.replicate 64 (0:Int):=⟨_,rfl⟩
  have hre:=rnew_pure h1 h2 st0
  rw [← hH] at h0 hre hpl
  have f1:=fun H V=>cz (H:=H) (V:=V)
  have f2:=fun H V=>co (H:=H) (V:=V)
  have f3:=bL (V:=[]) h0.hl
  have f6:=bW (V:=[]) h0.hl
  have f7:=dF (V:=[]) h0.hl
  refine aL rfl e_f30 hre rfl ?_
  by_cases k1:20 < f.length
  · simp (config:=KF) (disch:=omega) only [bZ,ao,bY,AI.dst,bj,aI,cy,ce,aw,bA,aH,au,ba,extV,boxX,aU,lenI,ci,cr,ev_f,ar,aG,putS,Sf.set,Sf.reg,getR,setR,ae,Sf.disAt,Sf.newLoc,Sf.setLoc,look,bt,aM,id,br,ah,bS,aa,bC,cq,ag,af,al,aF,cb,eQ,aB,cC,List.length_cons,List.length_nil,List.getElem?_cons_zero,List.getElem?_cons_succ,List.all_cons,List.set_cons_zero,List.set_cons_succ,↓reduceIte,Nat.reduceEqDiff,Nat.reduceAdd,Nat.reduceLeDiff,Bool.true_and,Bool.and_true,and_true,true_and,reduceCtorEq,Nat.zero_add,decide_true,Bool.false_eq_true,cc,am,f11_7e,f11_8e,f11_9e,f11_9l,f11_10e,f11_11e,f11_12e,f11_12l,hmf,f1,f2,f3,f7]
    refine bE rfl e_f31 (kg _) rfl fun r st1 hr=>?_
    subst hr
    simp (config:=KF) (disch:=omega) only [bZ,retI,aI,aw,ba,putS,Sf.set,Sf.reg,getR,setR,ae,Sf.disAt,↓reduceIte,Nat.reduceEqDiff,Bool.true_and,true_and]
    exact hQ' _
  by_cases k2:20 < l.length
  · simp (config:=KF) (disch:=omega) only [bZ,ao,bY,AI.dst,bj,aD,aI,cy,ce,aw,bA,aH,au,ba,aW,extV,boxX,aU,lenI,ci,cr,ev_f,ar,aG,putS,Sf.set,Sf.reg,getR,setR,ae,Sf.disAt,Sf.newLoc,Sf.setLoc,look,bt,aM,id,br,ah,bS,aa,bC,cq,ag,af,al,aF,cb,eQ,aB,cC,List.length_cons,List.length_nil,List.getElem?_cons_zero,List.getElem?_cons_succ,List.all_cons,List.set_cons_zero,List.set_cons_succ,↓reduceIte,Nat.reduceEqDiff,Nat.reduceAdd,Nat.reduceLeDiff,Bool.true_and,Bool.and_true,and_true,true_and,reduceCtorEq,Nat.zero_add,decide_true,Bool.false_eq_true,cc,bk,am,f11_7e,f11_8e,f11_9e,f11_9l,f11_10e,f11_11e,f11_12e,f11_12l,hmf,hml,f1,f2,f3,f7]
    refine bE rfl e_f31 (kg _) rfl fun r st1 hr=>?_
    subst hr
    simp (config:=KF) (disch:=omega) only [bZ,retI,aI,aw,ba,putS,Sf.set,Sf.reg,getR,setR,ae,Sf.disAt,↓reduceIte,Nat.reduceEqDiff,Bool.true_and,true_and]
    exact hQ' _
  by_cases k3:20 < r.length
  · simp (config:=KF) (disch:=omega) only [bZ,ao,bY,AI.dst,bj,aD,aI,cy,ce,aw,bA,aH,au,ba,aW,extV,boxX,aU,lenI,ci,cr,ev_f,ar,aG,putS,Sf.set,Sf.reg,getR,setR,ae,Sf.disAt,Sf.newLoc,Sf.setLoc,look,bt,aM,id,br,ah,bS,aa,bC,cq,ag,af,al,aF,cb,eQ,aB,cC,List.length_cons,List.length_nil,List.getElem?_cons_zero,List.getElem?_cons_succ,List.all_cons,List.set_cons_zero,List.set_cons_succ,↓reduceIte,Nat.reduceEqDiff,Nat.reduceAdd,Nat.reduceLeDiff,Bool.true_and,Bool.and_true,and_true,true_and,reduceCtorEq,Nat.zero_add,decide_true,Bool.false_eq_true,cc,bk,am,f11_7e,f11_8e,f11_9e,f11_9l,f11_10e,f11_11e,f11_12e,f11_12l,hmf,hml,hmr,f1,f2,f3,f7]
    refine bE rfl e_f31 (kg _) rfl fun r st1 hr=>?_
    subst hr
    simp (config:=KF) (disch:=omega) only [bZ,retI,aI,aw,ba,putS,Sf.set,Sf.reg,getR,setR,ae,Sf.disAt,↓reduceIte,Nat.reduceEqDiff,Bool.true_and,true_and]
    exact hQ' _
  simp (config:=KF) (disch:=omega) only [bZ,ao,AI.dst,aD,aI,cy,ap,ce,aw,bA,aH,au,aW,extV,aq,boxX,aU,gZ,ez,dn,lenI,aj,ai,cA,cr,ak,aA,ev_f,ar,aG,putS,Sf.set,Sf.reg,getR,setR,ae,Sf.disAt,Sf.newLoc,Sf.setLoc,look,bt,aM,id,br,ah,bS,aa,bC,cq,ag,af,al,aF,cb,eQ,aB,cC,List.length_cons,List.length_nil,List.getElem?_cons_zero,List.getElem?_cons_succ,List.all_cons,List.drop_zero,List.take_succ_cons,List.set_cons_zero,List.set_cons_succ,↓reduceIte,Nat.reduceEqDiff,Nat.reduceAdd,Nat.reduceLeDiff,Bool.true_and,Bool.and_true,and_true,true_and,reduceCtorEq,Nat.zero_add,not_true_eq_false,decide_true,decide_false,Bool.false_eq_true,bk,bh,am,f11_7e,f11_8e,f11_9e,f11_9l,f11_10e,f11_13e,f11_14e,f11_15e,f11_15l,f11_16e,f11_19e,f11_20e,f11_20l,hmf,hml,hmr,f1,f2,f3,f6,f7]
  refine bE (vs:=[.ptr b 0,rfAV sz 5 H [],.sl false 4 (f.map saAV)]) (by simp only [List.map_cons,List.map_nil,List.nil_append,List.append_nil,ah,aa,eP,br,f1,f6]) e_f33 (hpl (by omega) (by omega) hdf) rfl fun r1 st1 hr=>?_
  obtain ⟨nw',H',V',g',rfl,a1,a2,_⟩:=hr
  have g3:=bL (V:=V') a1.hl
  have g6:=bW (V:=V') a1.hl
  have g7:=fun a b=>eR (V:=[]) (V':=V') h0.hl a1.hl a b
  simp (config:=KF) (disch:=omega) only [bZ,cy,aw,aH,extV,boxX,aU,ar,aG,putS,Sf.set,Sf.reg,getR,setR,ae,Sf.disAt,Sf.setLoc,look,aM,ah,bS,aa,bC,cq,ag,af,al,List.length_cons,List.getElem?_cons_zero,List.getElem?_cons_succ,List.all_cons,List.set_cons_zero,List.set_cons_succ,↓reduceIte,Nat.reduceEqDiff,Nat.reduceAdd,Nat.reduceLeDiff,Bool.true_and,Bool.and_true,and_true,true_and,Nat.zero_add,am,f1,f2,f3,g3,g7]
  exact htl _ _ _ _ _ _ _ _ _ a1 (by omega) l r (by omega) (by omega) hdl hdr Q hQ'

theorem jd {sz:Int} {f l r:List (Int×Int×Int×Int×Unit)} (hdf:∀ x ∈ f,0≤x.2.2.2.1∧x.2.2.2.1≤nev) (hdl:∀ x ∈ l,0≤x.2.2.2.1∧x.2.2.2.1≤nev) (hdr:∀ x ∈ r,0≤x.2.2.2.1∧x.2.2.2.1≤nev):bz Go.Proofs.Try.prog n_f11 [.lit (.int .i64 sz),.sl false 4 (f.map fun x=>.agg [.lit (.int .i64 x.1),.lit (.int .i64 x.2.1),.lit (.int .i64 x.2.2.1),.lit (.int .u64 x.2.2.2.1)]),.sl false 4 (l.map fun x=>.agg [.lit (.int .i64 x.1),.lit (.int .i64 x.2.1),.lit (.int .i64 x.2.2.1),.lit (.int .u64 x.2.2.2.1)]),.sl false 4 (r.map fun x=>.agg [.lit (.int .i64 x.1),.lit (.int .i64 x.2.1),.lit (.int .i64 x.2.2.1),.lit (.int .u64 x.2.2.2.1)])] ⟨[]⟩ (fun v _=>v = .lit (.bool true)):=by
  rw [ss_lit,ss_lit,ss_lit]
  have key:∀ l:List (Int×Int×Int×Int×Unit),(∀ x ∈ l,0≤x.2.2.2.1∧x.2.2.2.1≤nev)→∀ a ∈ l.map (fun x=>(x.1,x.2.1,x.2.2.1,x.2.2.2.1)),0≤a.2.2.2∧a.2.2.2≤nev:=fun l h a ha=>by
    obtain ⟨x,hx,rfl⟩:=List.mem_map.1 ha
    exact h x hx
  exact jc sz _ _ _ (key _ hdf) (key _ hdl) (key _ hdr)
end Go.Fx.YtddifejdkiemgaaFx

