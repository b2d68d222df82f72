/- What the functions that the statement reaches compute: part 36. -/
import Derived.Test.YtbomoaajkinfpaaFxW35
namespace Go.Fx.YtbomoaajkinfpaaFx
open Go Go.Fx
attribute [local irreducible] aC runI aB aE

set_option maxRecDepth 100000
set_option maxHeartbeats 4000000

theorem nH {l:List Int} (hl:l.length < 100000) (st:St):aA Go.Proofs.Try.prog n_f23 [.sl false 1 (ints l)] st
    (fun r st'=>Kp st st' []∧if okL l = true then ∃ cv F,r = .tup [rfA cv [],.lit (.int .i64 0)]∧RefC cv st' (newR l).ch F∧∀ x ∈ F,st.boxes.length≤x∧x < st'.boxes.length else r = .tup [rfA (.lit (.slice none 0 0)) [],.lit (.int .i64 2)]):=by
  refine aq hmix k_f23 rfl rfl fun Q hQ=>?_
  unfold aFun c_f23
  have e0:wtS [] = .lit (.slice none 0 0):=rfl
  simp only [rfA,e0] at hQ
  have hbad:∀ st',Kp st st' []→okL l = false→Q (.tup [.agg [.lit (.slice none 0 0),.lit (.slice none 0 0)],.lit (.int .i64 2)]) st':=fun st' hk hb=>hQ _ _ ⟨hk,by rw [if_neg (by simp [hb])]⟩
  simp (config:=KF) (disch:=omega) only [bZ,AI.dst,lenI,bS,↓reduceIte,Nat.reduceEqDiff,reduceCtorEq,ak]
  refine aK (fun h1=>?_) (fun h1=>?_)
  · simp (config:=KF) (disch:=omega) only [bZ,retI,AI.dst,ag,aa,↓reduceIte,Nat.reduceEqDiff,Nat.reduceAdd,Nat.reduceLeDiff,reduceCtorEq]
    exact hbad _ (Kp.refl _ _) (by unfold okL; rw [decide_eq_false (by omega)]; rfl)
  simp (config:=KF) (disch:=omega) only [bZ,AI.dst,lenI,dA,↓reduceIte,Nat.reduceEqDiff,reduceCtorEq,ak]
  refine aH (fun h2=>?_) (fun h2=>?_)
  · simp (config:=KF) (disch:=omega) only [bZ,retI,ag,aa,↓reduceIte,Nat.reduceEqDiff,Nat.reduceAdd,Nat.reduceLeDiff,reduceCtorEq]
    exact hbad _ (Kp.refl _ _) (by unfold okL; rw [decide_eq_false (by omega)]; rfl)
  have hlen:1≤l.length∧l.length≤16:=by omega
  simp (config:=KF) (disch:=omega) only [bZ,bS,↓reduceIte,Nat.reduceEqDiff,reduceCtorEq]
  rw [f23_15w]
  refine aX (A:=Nat×AV×St) (fun a=>l.length - a.1) (fun a=>⟨[(0,.sl false 1 (ints l)),(2,.lptr 2 0),(4,.lptr 4 0),(5,.lit (.int .i64 (a.1:Nat)))],[(2,[.lit (.slice none 0 0),.lit (.slice none 0 0)]),(4,[a.2.1,.lit (.slice none 0 0)])]⟩) (fun a=>a.2.2)
    (fun a=>a.1≤l.length∧Kp st a.2.2 []∧KB 3 a.2.1 a.2.2 (chC ((newR l).ch.take a.1) (List.replicate a.1 (.lit (.slice none 0 0)))) a.1∧(∀ x ∈ ae a.2.1,st.boxes.length≤x)∧∀ x ∈ l.take a.1,okC x = true)
    (0,.lit (.slice none 0 0),st) ⟨Nat.zero_le _,Kp.refl _ _,.inl ⟨rfl,rfl,rfl⟩,by simp [ae],by simp⟩ (Sf.le_refl _) rfl ?_
  rintro ⟨k,cv,s⟩ ⟨h3,h4,h5,h6,h7⟩ K hK hKe hKr
  simp only at h3 h4 h5 h6 h7
  try dsimp only
  obtain ⟨c1,c2,c3,c4,c5,c6,c7,c8⟩:=h5.facts
  have hcl:(newR l).ch.length = l.length:=by simp [newR]
  by_cases hk:k < l.length
  · have hgd:(ints l).getD k .any = .lit (.int .i64 l[k]):=by simp [ints,hk]
    have htk:l.take (k + 1) = l.take k++[l[k]]:=List.take_succ_eq_append_getElem hk
    simp (config:=KF) (disch:=omega) only [bZ,AI.dst,ixSV,lenI,aa,↓reduceIte,Nat.reduceEqDiff,reduceCtorEq,hgd,ak]
    have hno:¬ (0≤l[k]∧l[k]≤4096)→okL l = false:=fun hc=>by
      unfold okL
      rw [Bool.and_eq_false_iff]
      refine .inr ?_
      rw [List.all_eq_false]
      exact ⟨l[k],List.getElem_mem hk,by unfold okC; rw [decide_eq_false hc]; simp⟩
    refine aK (fun q1=>?_) (fun q1=>?_)
    · simp (config:=KF) (disch:=omega) only [bZ,AI.dst,ag,↓reduceIte,Nat.reduceEqDiff,Nat.reduceAdd,Nat.reduceLeDiff,reduceCtorEq]
      refine hKr _ _ ?_
      simp (config:=KF) (disch:=omega) only [bZ,retI,aa,↓reduceIte,Nat.reduceEqDiff,Nat.reduceAdd,Nat.reduceLeDiff]
      exact hbad _ h4 (hno fun q=>by omega)
    simp (config:=KF) (disch:=omega) only [bZ,AI.dst,ixSV,aa,dA,↓reduceIte,Nat.reduceEqDiff,reduceCtorEq,hgd,ak]
    refine aH (fun q2=>?_) (fun q2=>?_)
    · simp (config:=KF) (disch:=omega) only [bZ,ag,↓reduceIte,Nat.reduceEqDiff,Nat.reduceAdd,Nat.reduceLeDiff,reduceCtorEq]
      refine hKr _ _ ?_
      simp (config:=KF) (disch:=omega) only [bZ,retI,aa,↓reduceIte,Nat.reduceEqDiff,Nat.reduceAdd,Nat.reduceLeDiff]
      exact hbad _ h4 (hno fun q=>by omega)
    obtain ⟨m,hm⟩:∃ m:Nat,l[k] = (m:Int):=⟨l[k].toNat,by omega⟩
    simp (config:=KF) (disch:=omega) only [bZ,bW,np,kL,ixSV,aY,List.reduceReplicate,addA,aa,srcA,bu,↓reduceIte,Nat.reduceEqDiff,Nat.reduceAdd,Nat.reduceLT,Nat.reduceLeDiff,reduceCtorEq,hgd,ak,c1]
    have hown:(chC ((newR l).ch.take k) (List.replicate k (AV.lit (.slice none 0 0)))).map AV.own1 = chC ((newR l).ch.take k) (List.replicate k (.lit (.slice none 0 0))):=by
      have key:∀ (ch:List Ch3) k,(chC ch (List.replicate k (AV.lit (.slice none 0 0)))).map AV.own1 = chC ch (List.replicate k (.lit (.slice none 0 0))):=fun ch=>by
        induction ch with
        | nil=>intro k; cases k <;> rfl
        | cons c ch ih =>
          intro k
          cases k with
          | zero=>rfl
          | succ k=>simp only [List.replicate_succ,chC,List.map_cons,ih]; rfl
      exact key _ _
    refine KB.grow h5 hown (new:=[.agg [.lit (.int .i64 l[k]),.lit (.slice none 0 0),.lit (.bool false)]]) rfl (bytes:=40) (ba (by simp only [List.length_cons,List.length_nil]; omega)) fun cv' s3 g1 g2 g3=>?_
    obtain ⟨w1,w2,w3,w4,w5,w6,w7,w8⟩:=g1.facts
    simp (config:=KF) (disch:=omega) only [bZ,bh,ag,addA,↓reduceIte,Nat.reduceEqDiff,Nat.reduceAdd,Nat.reduceLeDiff,reduceCtorEq,w1,w4,w6]
    refine hK (k + 1,cv',s3) _ ⟨by simp only; omega,?_,?_,fun x hx=>?_,fun x hx=>?_⟩ (by simp only; omega) (Sf.le_refl _)
    · refine ⟨Nat.le_trans h4.1 g2.1,fun i hi _=>?_⟩
      rw [g2.2 i (Nat.lt_of_lt_of_le hi h4.1) fun e=>by have:=h6 i e; omega,h4.2 i hi (by simp)]
    · simp only
      have e1:(newR l).ch.take (k + 1) = (newR l).ch.take k++[(m,[],false)]:=by
        rw [List.take_succ_eq_append_getElem (by omega)]
        simp [newR,hm]
      rw [e1,List.replicate_succ',nF _ _ (by rw [List.length_replicate,List.length_take]; omega)]
      rw [hm] at g1
      exact g1
    · simp only at hx
      rcases g3 x hx with q | q
      · exact h6 x q
      · have:=h4.1; omega
    · simp only at hx
      rw [htk] at hx
      rcases List.mem_append.1 hx with hx | hx
      · exact h7 x hx
      · simp only [List.mem_singleton] at hx
        subst hx
        exact decide_eq_true (by omega)
  · simp (config:=KF) (disch:=omega) only [bZ,lenI,↓reduceIte,Nat.reduceEqDiff,reduceCtorEq,ak]
    refine hKe _ _ _ ?_
    simp (config:=KF) (disch:=omega) only [bZ,retI,ag,aa,↓reduceIte,Nat.reduceEqDiff,Nat.reduceAdd,Nat.reduceLeDiff,c2,c4]
    have hkl:k = l.length:=by omega
    subst hkl
    rw [List.take_length] at h7
    rw [List.take_of_length_le (by omega)] at h5
    have hok:okL l = true:=by
      unfold okL
      rw [decide_eq_true hlen,Bool.true_and,List.all_eq_true]
      exact h7
    refine hQ _ _ ⟨h4,?_⟩
    rw [if_pos hok]
    refine ⟨cv,ae cv,rfl,⟨List.replicate l.length (.lit (.slice none 0 0)),by rw [List.length_replicate,hcl],by rw [hcl]; exact h5,fun i b c hb hc=>?_,fun x hx=>hx,fun b hb x hx=>?_⟩,fun x hx=>⟨h6 x hx,h5.lt x hx⟩⟩
    · have:b = .lit (.slice none 0 0):=by
        rw [List.getElem?_replicate] at hb
        split at hb
        · exact (Option.some.inj hb).symm
        · cases hb
      subst this
      have:c.2.1 = []:=by
        simp only [newR,List.getElem?_map,Option.map_eq_some_iff] at hc
        obtain ⟨z,_,rfl⟩:=hc
        rfl
      rw [this]
      exact .inl (.inl (.inl (.inl rfl)))
    · rw [List.eq_of_mem_replicate hb] at hx
      simp [ae] at hx

section
variable {st:St} {s mid n:Nat} {cv ov rv:AV} {L:List CL} {R:RS} {F:List Nat}
theorem gT (h:SelR st s mid cv ov L R n) (hr:RefC rv st R.ch F):aD Go.Proofs.Try.prog n_f24 [.ptr s 0,rfA rv R.ws] st (.lit (.bool true)):=by
  obtain ⟨c1,c2,c3,c4,c5,c6,c7⟩:=hr.isCh
  have c8:=hr.len
  obtain ⟨w1,w2,w3,w4,w5,w6,w7,w8⟩:=aw R.ws
  obtain ⟨r1,r2⟩:=cD hr.isCh R.ws
  have hfew:=h.few
  have hlen:=h.len
  have hcl:R.ch.length = L.length:=by rw [← h.ob,gQ]
  obtain ⟨rw',hrw,hpw⟩:=swaitingP h
  have hrw2:=od hr.isCh R.ws (by omega) st
  simp only [rfA] at hrw2
  have hdw:rw'.dis.dis = rw'.dis∧rw'.noL = true∧rw'.dis.noL = true∧IV rw'.dis st (R.ws.map (·.1)):=by
    rcases hrw with rfl | ⟨rfl,e⟩
    · exact ⟨rfl,rfl,rfl,.inl (.inr rfl)⟩
    · rw [e]; exact ⟨rfl,rfl,rfl,.inl (.inl rfl)⟩
  obtain ⟨d1,d2,d3,d4⟩:=hdw
  obtain ⟨i1,i2,i3,i4,i5,i6,i7,i8⟩:=cw (R.ws.map (·.1))
  have hsm:=kW d4 (b:=intS (R.ws.map (·.1))) (.inl (.inl rfl)) (by rw [List.length_map]; omega) (by rw [List.length_map]; omega)
  rw [decide_eq_true rfl] at hsm
  have hlm:=kS h (-1)
  have hcm:=gR h (-1)
  have hll:=kS h (R.ch.length:Nat)
  have hcc:=gR h (R.ch.length:Nat)
  have ha1:atR R (-1) = (0,[],false):=by unfold atR; rw [if_pos (by omega)]
  have ha2:atR R ((R.ch.length:Nat):Int) = (0,[],false):=by unfold atR; rw [if_neg (by omega),Int.toNat_natCast]; simp
  rw [ha1] at hlm hcm
  rw [ha2] at hll hcc
  have hch:=nx h.is
  rw [← hcl] at hch
  refine am hmix k_f24 rfl rfl fun Q hQ=>?_
  unfold aFun c_f24
  simp (config:=KF) (disch:=omega) only [bZ,de,cC,id,↓reduceIte,Nat.reduceEqDiff,Nat.reduceAdd,Int.reduceNeg,reduceCtorEq,rfA,c2,c4,w2,w4]
  refine ec rfl e_f31 hch rfl ?_
  simp (config:=KF) (disch:=omega) only [bZ,dD,f8,io,de,b9,cc,AI.dst,addA,aa,id,↓reduceIte,Nat.reduceEqDiff,Int.reduceNeg,reduceCtorEq,not_true_eq_false,c1,c8]
  refine ec rfl e_f26 hpw rfl ?_
  simp (config:=KF) (disch:=omega) only [bZ,dD,de,b9,cc,AI.dst,aa,id,↓reduceIte,Nat.reduceEqDiff,Nat.reduceAdd,Nat.reduceLeDiff,Int.reduceNeg,reduceCtorEq,c2,w2]
  refine ec (by simp only [List.map_cons,List.map_nil,r1]; rfl) e_f48 hrw2 (by simp only [List.all_cons,List.all_nil,r2]; rfl) ?_
  simp (config:=KF) (disch:=omega) only [bZ,dD,de,b9,cc,AI.dst,id,↓reduceIte,Nat.reduceEqDiff,Int.reduceNeg,reduceCtorEq]
  refine ec (by simp only [List.map_cons,List.map_nil,i1]; rfl) e_f47 hsm (by simp only [List.all_cons,List.all_nil,i5,d2]; rfl) ?_
  simp (config:=KF) (disch:=omega) only [bZ,dD,lZ,hh_un,de,b9,cc,AI.dst,unA,id,↓reduceIte,Nat.reduceEqDiff,Int.reduceNeg,reduceCtorEq]
  refine ec rfl e_f19 hlm rfl ?_
  simp (config:=KF) (disch:=omega) only [bZ,dD,lZ,f8,io,de,b9,cc,AI.dst,addA,aa,id,↓reduceIte,Nat.reduceEqDiff,Int.reduceNeg,reduceCtorEq,not_true_eq_false,c1,c8]
  refine ec rfl e_f19 hll rfl ?_
  simp (config:=KF) (disch:=omega) only [bZ,dD,lZ,f8,de,b9,cc,AI.dst,id,↓reduceIte,Nat.reduceEqDiff,Int.reduceNeg,reduceCtorEq,not_true_eq_false]
  refine ec rfl e_f21 hcm rfl ?_
  simp (config:=KF) (disch:=omega) only [bZ,dD,lZ,io,b9,cc,AI.dst,addA,aa,id,↓reduceIte,Nat.reduceEqDiff,reduceCtorEq,c1,c8]
  refine aj rfl e_f21 hcc rfl ?_
  simp (config:=KF) (disch:=omega) only [bZ,↓reduceIte,Nat.reduceEqDiff,reduceCtorEq]
  rw [f24_13w]
  refine aX (A:=Nat) (fun a=>R.ch.length - a) (fun a=>⟨[(0,.ptr s 0),(3,.lptr 3 0),(5,.lit (.int .i64 (a:Nat)))],[(3,[rv,wtS R.ws])]⟩) (fun _=>st)
    (fun a=>a≤R.ch.length) 0 (Nat.zero_le _) (Sf.le_refl _) rfl ?_
  rintro i h1 K hK hKe hKr
  try dsimp only
  by_cases hi:i < R.ch.length
  · have hat:atR R ((i:Nat):Int) = R.ch[i]:=by unfold atR; rw [if_neg (by omega),Int.toNat_natCast]; simp [hi]
    have hl1:=kS h (i:Nat)
    have hc1:=gR h (i:Nat)
    rw [hat] at hl1 hc1
    obtain ⟨bi,cap,cs,b,hcv,hg,hd,hb,hle⟩:=hr.get hi
    obtain ⟨b',bo,bd,hb⟩:=hb.ex
    obtain ⟨b1,b2,b3,b4,b5,b6,b7,b8⟩:=hb.facts
    subst hcv
    have hd1:cs.drop (i * 3 + 1) = b::.lit (.bool R.ch[i].2.2)::cs.drop ((i + 1) * 3):=by rw [← List.drop_drop,hd]; rfl
    have hd2:cs.drop (i * 3 + 2) = .lit (.bool R.ch[i].2.2)::cs.drop ((i + 1) * 3):=by rw [← List.drop_drop,hd]; rfl
    simp (config:=KF) (disch:=omega) only [bZ,de,lenI,addA,aa,id,↓reduceIte,Nat.reduceEqDiff,reduceCtorEq]
    refine ec rfl e_f19 hl1 rfl ?_
    simp (config:=KF) (disch:=omega) only [bZ,dD,f8,bW,io,de,b9,cc,AI.dst,ixSV,addA,aa,id,↓reduceIte,Nat.reduceEqDiff,reduceCtorEq,not_true_eq_false,hg,hd1,bd,b8]
    refine ec rfl e_f21 hc1 rfl ?_
    simp (config:=KF) (disch:=omega) only [bZ,dD,bW,b9,cc,AI.dst,ixSV,b_neq,addA,aa,↓reduceIte,Nat.reduceEqDiff,reduceCtorEq,hg,hd2,beq_self_eq_true]
    exact hK (i + 1) _ (by omega) (by omega) (Sf.le_refl _)
  · simp (config:=KF) (disch:=omega) only [bZ,addA,aa,↓reduceIte,Nat.reduceEqDiff,reduceCtorEq,c1,c8]
    refine hKe _ _ _ ?_
    simp (config:=KF) (disch:=omega) only [bZ,retI,↓reduceIte]
    exact hQ _
end

end Go.Fx.YtbomoaajkinfpaaFx

