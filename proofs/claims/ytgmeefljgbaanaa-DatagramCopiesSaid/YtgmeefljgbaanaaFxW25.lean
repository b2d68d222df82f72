/- What the functions that the statement reaches compute: part 25. -/
import Derived.Test.YtgmeefljgbaanaaFxW24
namespace Go.Fx.YtgmeefljgbaanaaFx
open Go Go.Fx
attribute [local irreducible] aC runI aG aH

set_option maxRecDepth 100000
set_option maxHeartbeats 4000000

def pAll(R:NR)(l:List Act):NR:=l.foldl (fun R a=>(rDo a.w a.t a.n a.m a.nm a.port a.pol a.life a.d (a.at_:Nat) R).1) R
theorem pAll_take{R:NR}{l:List Act}{i:Nat}(hi:i<l.length):pAll R (l.take (i+1))=(rDo l[i].w l[i].t l[i].n l[i].m l[i].nm l[i].port l[i].pol l[i].life l[i].d (l[i].at_:Nat) (pAll R (l.take i))).1:=by
 rw[List.take_succ_eq_append_getElem hi]
 unfold pAll
 rw[List.foldl_append]
 rfl
theorem rDo_sizes{R:NR}{k:Nat}(h:ROk R k)(w t n m:Int)(nm:ByteArray)(port pol:Int)(life:Nat)(d:List UInt8)(hd:d.length≤100000)(at_:Int):(rDo w t n m nm port pol life d at_ R).2.one.data.length≤100000∧(rDo w t n m nm port pol life d at_ R).2.all.length≤64:=by
 have hcut:∀(t:Int) (p:Pk) (m:Int),p.data.length≤100000→(cutR t p m).data.length≤100000:=fun t p m hp=>by
  unfold cutR
  simp only[List.length_take]
  omega
 have hz:rc0.data.length≤100000:=Nat.zero_le _
 unfold rDo
 split
 ·exact⟨hz,Nat.zero_le _⟩
 split
 ·refine⟨hz,?_⟩
  simp only
  unfold cy
  repeat' split
  all_goals first|exact Nat.zero_le _|(simp only[List.length_cons,List.length_nil];omega)
 split
 ·refine⟨?_,Nat.zero_le _⟩
  simp only
  unfold ei
  split
  ·exact hz
  rcases eA n R.socks with⟨_,e⟩|⟨i,hi,_,_,e,_⟩
  ·rw[e];exact hz
  ·rw[e]
   simp only
   split
   ·exact hz
   ·split
    ·exact hz
    ·rename_i p r hq
     have:=((h.ok R.socks[i] (List.getElem_mem hi)).2.2.2.2.2.2 p (by rw[hq];simp)).1
     exact hcut t p m (by omega)
 split
 ·refine⟨?_,Nat.zero_le _⟩
  simp only
  unfold rTry
  split
  ·exact hz
  rcases eA n R.socks with⟨_,e⟩|⟨i,hi,_,_,e,_⟩
  ·rw[e];exact hz
  ·rw[e]
   simp only
   split
   ·exact hz
   ·rename_i p r hq
    have:=((h.ok R.socks[i] (List.getElem_mem hi)).2.2.2.2.2.2 p (by rw[hq];simp)).1
    exact hcut 0 p m (by omega)
 split
 ·exact⟨hz,Nat.zero_le _⟩
 split
 ·refine⟨hz,?_⟩
  simp only
  unfold eB
  split
  ·exact Nat.zero_le _
  ·simp only[List.length_map]
   exact Nat.le_trans (List.length_filter_le _ _) h.wl
 ·exact⟨hz,Nat.zero_le _⟩
theorem eqRO_refl(x:RO):eqRO x x=true:=by unfold eqRO;rw[lD,jQ];simp
theorem AllV.kp{F:List Nat}{st st':St}{v:AV}{l:List Rc}(h:AllV (fun b=>b ∉ F) false v st l)(hk:Kp st st' F):AllV (fun b=>b ∉ F) false v st' l:=by
 rcases h with h|⟨es,rfl,h⟩
 ·exact .inl h
 ·exact .inr ⟨es,rfl,h.kp hk fun b hb=>.inl hb⟩
theorem DV.pd(st:St)(d:List UInt8):DV (pdV d) st d:=by
 unfold pdV
 split
 ·rename_i h;exact .inl ⟨rfl,h⟩
 ·exact .inr (.inl rfl)
theorem rcs_row(st:St):∀l:List Rc,RcsV (fun _=>True) st (l.map rcV) l
 | []=>trivial
 |r::l=>⟨⟨pdV r.data,rfl,DV.pd st r.data,fun _ _=>trivial⟩,rcs_row st l⟩
theorem AllV.rcs(st:St)(l:List Rc):AllV (fun _=>True) false (rcsV l) st l:=by
 unfold rcsV
 split
 ·rename_i h;exact .inl ⟨rfl,h⟩
 ·refine .inr ⟨_,rfl,?_⟩
  exact rcs_row st l

def ByB(cs:List AV)(m:Nat):Prop:=m≤cs.length∧∀j,j<m→∃z:Int,cs[j]?=some (.lit (.int .u8 z))
theorem ByB.bb(p:List UInt8)(r:List AV):ByB (BB p++r) p.length:=by
 refine⟨by rw[List.length_append,bq];omega,fun j hj=>⟨((p[j]).toNat:Int),?_⟩⟩
 rw[List.getElem?_append_left (by rw[bq];exact hj)]
 simp[BB,hj,d9]
theorem ByB.set{cs:List AV}{m j:Nat}(h:ByB cs m)(z:Int):ByB (cs.set j (.lit (.int .u8 z))) m:=by
 refine⟨by rw[List.length_set];exact h.1,fun i hi=>?_⟩
 rw[List.getElem?_set]
 by_cases e:j=i
 ·subst e
  rw[if_pos rfl,if_pos (Nat.lt_of_lt_of_le hi h.1)]
  exact⟨z,rfl⟩
 ·rw[if_neg e];exact h.2 i hi
theorem ByB.drop{cs:List AV}{m j:Nat}(h:ByB cs m)(hj:j<m):∃(z:Int) (r:List AV),cs.drop j= .lit (.int .u8 z)::r:=by
 obtain⟨z,hz⟩:=h.2 j hj
 obtain⟨h1,h2⟩:=List.getElem?_eq_some_iff.1 hz
 exact⟨z,cs.drop (j+1),by rw[List.drop_eq_getElem_cons h1,h2]⟩
def WB(v:AV)(st:St)(m:Nat):Prop:=m=0∨∃bx cap cs,v= .bs bx 1 0 m cap∧st.get bx=some cs∧ByB cs m
theorem WB.of{v:AV}{st:St}{p:List UInt8}(h:MB v st (BB p)):WB v st p.length:=by
 rcases h with⟨_,e⟩|⟨bx,cap,r,e,hg,_,_⟩
 ·left
  have:=congrArg List.length e
  rw[bq]at this
  simpa using this
 ·rw[bq]at e
  exact .inr ⟨bx,cap,_,e,hg,ByB.bb p r⟩

theorem wipe1{v:AV}{s0:St}{p:List UInt8}(hp:p.length≤100000)(hv:MB v s0 (BB p)){w t q n port pol life at':Int}{nm:ByteArray}{h i:Nat}{acts:List AV}{z4 z6 z10 z11 z12:List AV}{K:Exit→Sf→St→Prop}
  (hK:∀s',Kp s0 s' (ah v)→K (.exit 2) ⟨[(0,.ptr h 0),(2,.sl false 10 acts),(4,.lptr 4 0),(6,.lptr 6 0),(8,.lit (.int .i64 (i:Nat))),(10,.lptr 10 0),(11,.lptr 11 0),(12,.lptr 12 0)],[(4,z4),(6,z6),(10,z10),(11,z11),(12,z12)]⟩ s') :
  aC Go.Proofs.Try.prog id false f22_26 ⟨[(0,.ptr h 0),(2,.sl false 10 acts),(4,.lptr 4 0),(6,.lptr 6 0),(8,.lit (.int .i64 (i:Nat))),(9,.lptr 9 0),(10,.lptr 10 0),(11,.lptr 11 0),(12,.lptr 12 0),(13,.lit (.int .i64 0))],[(4,z4),(6,z6),(9,[.lit (.int .i64 w),.lit (.int .i64 t),.lit (.int .i64 q),.lit (.int .i64 n),.lit (.string nm),.lit (.int .i64 port),.lit (.int .i64 pol),.lit (.int .u64 life),v,.lit (.int .u64 at')]),(10,z10),(11,z11),(12,z12)]⟩ s0 K:=by
 obtain⟨v1,v2,v3,v4,v5,v6,v7,v8⟩:=hv.facts
 have hwb:=WB.of hv
 rw[bq]at v8
 rw[f22_26w]
 refine bB (A:=Nat×St) (fun a=>p.length-a.1) (fun a=>⟨[(0,.ptr h 0),(2,.sl false 10 acts),(4,.lptr 4 0),(6,.lptr 6 0),(8,.lit (.int .i64 (i:Nat))),(9,.lptr 9 0),(10,.lptr 10 0),(11,.lptr 11 0),(12,.lptr 12 0),(13,.lit (.int .i64 (a.1:Nat)))],[(4,z4),(6,z6),(9,[.lit (.int .i64 w),.lit (.int .i64 t),.lit (.int .i64 q),.lit (.int .i64 n),.lit (.string nm),.lit (.int .i64 port),.lit (.int .i64 pol),.lit (.int .u64 life),v,.lit (.int .u64 at')]),(10,z10),(11,z11),(12,z12)]⟩) (fun a=>a.2)
  (fun a=>a.1≤p.length∧Kp s0 a.2 (ah v)∧WB v a.2 p.length) (0,s0) ⟨Nat.zero_le _,Kp.refl _ _,hwb⟩ (Sf.le_refl _) rfl ?_
 rintro⟨k,s⟩ ⟨h1,h2,h3⟩ K2 hK2 hKe hKr
 simp only at h1 h2 h3
 try dsimp only
 by_cases hk:k<p.length
 ·rcases h3 with e|⟨bx,cap,cs,e,hg,hl⟩
  ·omega
  obtain⟨z,r,hd⟩:=hl.drop hk
  have hcl:=hl.1
  have hnx:=fun(z:Int) (sf:Sf)=>hK2 (k+1,s.set bx (cs.set k (.lit (.int .u8 z)))) sf ⟨by simp only;omega,h2.trans ⟨by rw[gU];exact Nat.le_refl _,fun x hx hn=>cO fun q=>hn (by rw[e,q];simp[ah])⟩ fun _ hx=>.inl hx,.inr ⟨bx,cap,_,e,aY (bI hg),hl.set z⟩⟩ (by simp only;omega)
  subst e
  simp(config:=KF) (disch:=omega)only[bZ,ixSV,af,lenI,addA,aa,gT,↓reduceIte,Nat.reduceEqDiff,reduceCtorEq,Nat.mul_one,hg,hd]
  exact hnx _ _ (Sf.le_refl _)
 ·simp(config:=KF) (disch:=omega)only[bZ,addA,aa,↓reduceIte,Nat.reduceEqDiff,reduceCtorEq,v1,v8]
  exact hKe _ _ _ (hK s h2)

theorem wipe2{v:AV}{s0:St}{p:List UInt8}(hp:p.length≤100000)(hv:MB v s0 (BB p)){n e tk port er at':Int}{b c:Bool}{its:AV}{nm:ByteArray}{h i:Nat}{acts:List AV}{z4 z6 z10:List AV}{K:Exit→Sf→St→Prop}
  (hK:∀s',Kp s0 s' (ah v)→K (.exit 4) ⟨[(0,.ptr h 0),(2,.sl false 10 acts),(4,.lptr 4 0),(6,.lptr 6 0),(8,.lit (.int .i64 (i:Nat))),(10,.lptr 10 0)],[(4,z4),(6,z6),(10,z10)]⟩ s') :
  aC Go.Proofs.Try.prog id false f22_45 ⟨[(0,.ptr h 0),(2,.sl false 10 acts),(4,.lptr 4 0),(6,.lptr 6 0),(8,.lit (.int .i64 (i:Nat))),(10,.lptr 10 0),(12,.lptr 12 0),(14,.lit (.int .i64 0))],[(4,z4),(6,z6),(10,z10),(12,[.lit (.int .i64 n),.lit (.bool b),.lit (.int .i64 tk),.lit (.string nm),.lit (.int .i64 port),v,.lit (.int .u64 at'),.lit (.bool c),.lit (.int .i64 er),its,.lit (.int .i64 e)])]⟩ s0 K:=by
 obtain⟨v1,v2,v3,v4,v5,v6,v7,v8⟩:=hv.facts
 have hwb:=WB.of hv
 rw[bq]at v8
 rw[f22_45w]
 refine bB (A:=Nat×St) (fun a=>p.length-a.1) (fun a=>⟨[(0,.ptr h 0),(2,.sl false 10 acts),(4,.lptr 4 0),(6,.lptr 6 0),(8,.lit (.int .i64 (i:Nat))),(10,.lptr 10 0),(12,.lptr 12 0),(14,.lit (.int .i64 (a.1:Nat)))],[(4,z4),(6,z6),(10,z10),(12,[.lit (.int .i64 n),.lit (.bool b),.lit (.int .i64 tk),.lit (.string nm),.lit (.int .i64 port),v,.lit (.int .u64 at'),.lit (.bool c),.lit (.int .i64 er),its,.lit (.int .i64 e)])]⟩) (fun a=>a.2)
  (fun a=>a.1≤p.length∧Kp s0 a.2 (ah v)∧WB v a.2 p.length) (0,s0) ⟨Nat.zero_le _,Kp.refl _ _,hwb⟩ (Sf.le_refl _) rfl ?_
 rintro⟨k,s⟩ ⟨h1,h2,h3⟩ K2 hK2 hKe hKr
 simp only at h1 h2 h3
 try dsimp only
 by_cases hk:k<p.length
 ·rcases h3 with e|⟨bx,cap,cs,e,hg,hl⟩
  ·omega
  obtain⟨z,r,hd⟩:=hl.drop hk
  have hcl:=hl.1
  have hnx:=fun(z:Int) (sf:Sf)=>hK2 (k+1,s.set bx (cs.set k (.lit (.int .u8 z)))) sf ⟨by simp only;omega,h2.trans ⟨by rw[gU];exact Nat.le_refl _,fun x hx hn=>cO fun q=>hn (by rw[e,q];simp[ah])⟩ fun _ hx=>.inl hx,.inr ⟨bx,cap,_,e,aY (bI hg),hl.set z⟩⟩ (by simp only;omega)
  subst e
  simp(config:=KF) (disch:=omega)only[bZ,ixSV,af,lenI,addA,aa,gT,↓reduceIte,Nat.reduceEqDiff,Nat.reduceAdd,reduceCtorEq,Nat.mul_one,hg,hd]
  exact hnx _ _ (Sf.le_refl _)
 ·simp(config:=KF) (disch:=omega)only[bZ,addA,aa,↓reduceIte,Nat.reduceEqDiff,Nat.reduceAdd,reduceCtorEq,v1,v8]
  exact hKe _ _ _ (hK s h2)
end Go.Fx.YtgmeefljgbaanaaFx

namespace Go.Fx.YtgmeefljgbaanaaFx
open Go Go.Fx
attribute [local irreducible] aC runI aG aH

set_option maxRecDepth 100000
set_option maxHeartbeats 4000000

theorem iP{st:St}{n sid wid k:Nat}{R:NR}{F:List Nat}{l:List Act}(hl:l.length≤100)(hfew:∀a∈l,a.d.length≤100000∧a.nm.size≤50)(hok:∀a∈l,a.life<18446744073709551616∧a.at_<18446744073709551616)(hh:NetR st n sid wid k R F)(hF:∀x∈F,x<st.boxes.length)(hn:k≤50000) :
  aF Go.Proofs.Try.prog n_f22 [.ptr n 0,rnV R,.sl false 10 (l.map actV)] st (fun r st'=>r= .tup [rnV (pAll R l),.lit (.bool true)]∧∃F',NetR st' n sid wid (k+l.length) (pAll R l) F'∧Kp st st' F∧∀x∈F',(x∈F∨st.boxes.length≤x)∧x<st'.boxes.length):=by
 refine aK hmix k_f22 rfl rfl fun Q hQ=>?_
 unfold aFun c_f22
 obtain⟨s1,s2,s3,s4,s5,s6,s7,s8⟩:=aB R.socks
 obtain⟨w1,w2,w3,w4,w5,w6,w7,w8⟩:=aE R.ws
 rw[b9 R]
 simp(config:=KF) (disch:=omega)only[bZ,cI,↓reduceIte,Nat.reduceEqDiff,Nat.reduceAdd,reduceCtorEq,s2,s4,w2,w4]
 rw[f22_7w]
 refine bB (A:=Nat×List Nat×St) (fun a=>l.length-a.1) (fun a=>⟨[(0,.ptr n 0),(2,.sl false 10 (l.map actV)),(4,.lptr 4 0),(6,.lptr 6 0),(8,.lit (.int .i64 (a.1:Nat)))],[(4,[.lit (.int .u64 ((pAll R (l.take a.1)).now:Nat)),ssV (pAll R (l.take a.1)).socks,wsV (pAll R (l.take a.1)).ws]),(6,[.lit (.int .u64 0),.lit (.slice none 0 0),.lit (.slice none 0 0)])]⟩) (fun a=>a.2.2)
  (fun a=>a.1≤l.length∧NetR a.2.2 n sid wid (k+a.1) (pAll R (l.take a.1)) a.2.1∧Kp st a.2.2 F∧∀x∈a.2.1,(x∈F∨st.boxes.length≤x)∧x<a.2.2.boxes.length) (0,F,st) ⟨Nat.zero_le _,hh,Kp.refl _ _,fun x hx=>⟨.inl hx,hF x hx⟩⟩ (Sf.le_refl _) rfl ?_
 rintro⟨i,F1,s0⟩ ⟨h1,h2,h3,h4⟩ K hK hKe hKr
 simp only at h1 h2 h3 h4
 dsimp only
 by_cases hi:i<l.length
 ·have htk:=pAll_take (R:=R) hi
  have hla:=hfew l[i] (List.getElem_mem hi)
  have hlo:=hok l[i] (List.getElem_mem hi)
  have hg:=act_getD hi
  have hnx:=fun(F':List Nat) (s':St) (sf:Sf) a1 a2 a3=>hK (i+1,F',s') sf ⟨by simp only;omega,a1,a2,a3⟩ (by simp only;omega)
  simp only[htk]at hnx
  generalize pAll R (l.take i)=R1 at *
  generalize l[i]=a at *
  obtain⟨w,t,q,m,nm,port,pol,life,d,at'⟩:=a
  simp only at hla hlo hg hnx
  obtain⟨s1,s2,s3,s4,s5,s6,s7,s8⟩:=aB R1.socks
  obtain⟨u1,u2,u3,u4,u5,u6,u7,u8⟩:=aE R1.ws
  have hbl:=bq d
  simp(config:=KF) (disch:=omega)only[bZ,ixSV,af,a9,lenI,addA,aa,srcA,eL,cI,↓reduceIte,Nat.reduceEqDiff,Nat.reduceAdd,Nat.reduceLeDiff,reduceCtorEq,hg]
  refine MB.grow (.inl ⟨rfl,rfl⟩) Lits.nil (qD d) (bg (by rw[hbl];simp only[List.length_nil];omega)) fun v s1' g1 g2 g3=>?_
  rw[List.nil_append]at g1
  have hk01:Kp s0 s1' []:=g2
  obtain⟨v1,v2,v3,v4,v5,v6,v7,v8⟩:=g1.facts
  have hdv:DV v s1' d:=DV.of_mb g1
  have hh1:NetR s1' n sid wid (k+i) R1 F1:=h2.kp hk01 fun _ _ q=>by cases q
  have hvn:∀x∈ah v,s0.boxes.length≤x:=fun x hx=>(g3 x hx).elim (fun q=>by simp[ah]at q) _root_.id
  have hvl:=hdv.lt
  have hvF:∀x∈ah v,x ∉ F1:=fun x hx q=>by
   have:=hvn x hx
   have:=(h4 x q).2
   omega
  have hF1:∀x∈F1,x<s1'.boxes.length:=fun x hx=>Nat.lt_of_lt_of_le (h4 x hx).2 hk01.1
  have hmk:=(makes_pure hh1.rok (by omega) w t q m nm port pol life d at' (by omega) hla.1 hlo.2 s1').acalls
  have hdo:=do_calls hh1 hF1 w t q m nm port pol life (at':Nat) hdv hla.1 (by omega) hlo.1 (by omega) (by omega) (by omega)
  have hsz:=rDo_sizes hh1.rok w t q m nm port pol life d hla.1 (at':Nat)
  unfold actA at hmk hdo
  generalize rDo w t q m nm port pol life d (at':Nat) R1=X at hmk hdo hsz hnx
  obtain⟨x1,x2,x3,x4,x5,x6,x7,x8⟩:=aB X.1.socks
  obtain⟨y1,y2,y3,y4,y5,y6,y7,y8⟩:=aE X.1.ws
  obtain⟨m1,m2,m3,m4,m5,m6,m7,m8⟩:=bT X.2.one.data
  obtain⟨a1,a2,a3,a4,a5,a6,a7⟩:=jV X.2.all
  rw[b9 R1,b9 X.1]at hmk
  unfold rresV resV resA dV at hmk
  simp(config:=KF) (disch:=omega)only[bZ,bD,af,addA,↓reduceIte,Nat.reduceEqDiff,Nat.reduceAdd,Nat.reduceLeDiff,reduceCtorEq,v1,v4,v6]
  refine draw_m ⟨[]⟩ (St.sub_nil _) ?_
  simp(config:=KF) (disch:=omega)only[bZ,Nat.reduceBEq,pG,qE,m_val,mm_mv,mm_ixS,mA,atM_eq,fL,dropP,dropQ,nc,ixSV,aa,id,List.nil_append,List.cons_append,↓reduceIte,Nat.reduceEqDiff,Nat.reduceAdd,Nat.reduceLeDiff,reduceCtorEq,or_false,s2,u2,hg]
  refine call_m (by simp[s2,u2,am,aw,ai]) e_f43 hmk (by simp[s5,u5,ao,aI,aq]) ?_
  simp(config:=KF) (disch:=omega)only[bZ,Nat.reduceBEq,Bool.or_true,ksB,aL,bh,bz,aO,nstB,bA,hm_nil,hm_hole,hm_none,nT,hm_new,mm_newL,AI.dst,putN,List.nil_append,List.cons_append,↓reduceIte,Nat.reduceEqDiff,reduceCtorEq,or_true,or_false]
  rintro r s1'' ⟨rfl,rfl⟩
  refine⟨St.sub_nil _,?_⟩
  simp(config:=KF) (disch:=omega)only[bZ,Nat.reduceBEq,Bool.or_true,ksB,aL,bh,bz,aO,bU,bK,headNst_eq,nstB,bA,cb,Option.getD_some,nst_beq,pG,qE,m_val,mm_mv,mm_ext,nS,lz,compM_t,compM_tn,compM_f,nU,qG,m_new,m_nst,mm_newL,mm_store,af,aa,id,ep,eL,cI,cx,List.nil_append,List.cons_append,↓reduceIte,Nat.reduceEqDiff,Nat.reduceAdd,Nat.reduceLeDiff,reduceCtorEq,or_true,or_false,x2,x4,y2,y4,m2,m4,a2,a4,v2]
  refine aR (by simp[v2,am,ai,i8]) e_f14 hdo (by simp[v5,ao,eV,aq]) fun r s2' hr=>?_
  obtain⟨dv,av,F2,rfl,hmb,hdn,hav,hnp⟩:=hr
  obtain⟨hh2,hk2,hF2⟩:=hnp
  obtain⟨c1,c2,c3,c4,c5,c6,c7,c8⟩:=hmb.facts
  obtain⟨b1,b2,b3,b4,b5,b6,b7,b8⟩:=hav.facts
  unfold resV resA
  simp(config:=KF) (disch:=omega)only[bZ,af,cI,↓reduceIte,Nat.reduceEqDiff,Nat.reduceAdd,Nat.reduceLeDiff,reduceCtorEq,c2,c4,b2,b4]
  have hmv2:MB v s2' (BB d):=g1.at fun x hx=>hk2.2 x (hvl x hx) (hvF x hx)
  refine wipe1 hla.1 hmv2 fun s3' hk3=>?_
  have hvF2:∀x∈F2,x ∉ ah v:=fun x hx q=>by
   rcases(hF2 x hx).1 with e|e
   ·exact hvF x q e
   ·have:=hvl x q;omega
  have hh3:NetR s3' n sid wid (k+i+1) X.1 F2:=hh2.kp hk3 hvF2
  have hdl2:=(DV.of_mb hmb).lt
  have hdvv:∀x∈ah dv,x ∉ ah v:=fun x hx q=>by
   have:=(hdn x hx).1
   have:=hvl x q
   omega
  have hmb3:MB dv s3' (BB X.2.one.data):=hmb.at fun x hx=>hk3.2 x (hdl2 x hx) (hdvv x hx)
  have hav3:AllV (fun b=>b ∉ ah v) false av s3' X.2.all:=(hav.imp fun b hb q=>by have:=hvl b q;omega).kp hk3
  have hsm:=rsame_pure (a:=X.2) (b:=X.2) (DV.of_mb hmb3) (DV.pd s3' X.2.one.data) hav3 (AllV.rcs s3' X.2.all) (by omega) (by omega)
  rw[eqRO_refl]at hsm
  have heq:=jg hh3 (by omega)
  unfold resV resA at hsm
  rw[b9 X.1]at heq
  simp(config:=KF) (disch:=omega)only[bZ,aa,id,↓reduceIte,Nat.reduceEqDiff,Nat.reduceAdd,Nat.reduceLeDiff,reduceCtorEq,c2,b2,m2,a2]
  refine ag (by simp[c2,b2,m2,a2,am,ai]) e_f24 hsm (by simp[c5,b5,m5,a5,ao,aq]) ?_
  simp(config:=KF) (disch:=omega)only[bZ,AI.dst,aa,unA,id,↓reduceIte,Nat.reduceEqDiff,Nat.reduceAdd,Nat.reduceLeDiff,reduceCtorEq,x2,y2]
  refine ag (by simp[x2,y2,am,ai,i8]) e_f21 heq (by simp[x5,y5,ao,aq,eV]) ?_
  simp(config:=KF) (disch:=omega)only[bZ,AI.dst,unA,↓reduceIte,Nat.reduceEqDiff,reduceCtorEq]
  refine wipe2 (p:=X.2.one.data) hsz.1 hmb3 fun s4' hk4=>?_
  have hh4:NetR s4' n sid wid (k+i+1) X.1 F2:=hh3.kp hk4 fun x hx q=>(hdn x q).2 hx
  simp(config:=KF) (disch:=omega)only[bZ,af,aa,↓reduceIte,Nat.reduceEqDiff,Nat.reduceAdd,Nat.reduceLeDiff,reduceCtorEq,x2,x4,y2,y4]
  refine hnx F2 s4' _ hh4 ?_ (fun x hx=>⟨?_,Nat.lt_of_lt_of_le (hF2 x hx).2 (Nat.le_trans hk3.1 hk4.1)⟩) (Sf.le_refl _)
  ·have e1:Kp s0 s2' F1:=(Kp.wide hk01 (F':=F1) fun b q=>by cases q).trans hk2 fun x hx=>.inl hx
   have e2:Kp s0 s3' F1:=e1.trans hk3 fun x hx=>.inr (hvn x hx)
   have e3:Kp s0 s4' F1:=e2.trans hk4 fun x hx=>.inr (Nat.le_trans hk01.1 (hdn x hx).1)
   exact h3.trans e3 fun x hx=>(h4 x hx).1
  ·rcases(hF2 x hx).1 with e|e
   ·exact(h4 x e).1
   ·exact .inr (Nat.le_trans h3.1 (Nat.le_trans hk01.1 e))
 ·obtain rfl:i=l.length:=by omega
  rw[List.take_length]at h2 ⊢
  obtain⟨s1,s2,s3,s4,s5,s6,s7,s8⟩:=aB (pAll R l).socks
  obtain⟨u1,u2,u3,u4,u5,u6,u7,u8⟩:=aE (pAll R l).ws
  simp(config:=KF) (disch:=omega)only[bZ,lenI,↓reduceIte,Nat.reduceEqDiff,reduceCtorEq]
  refine hKe _ _ _ ?_
  simp(config:=KF) (disch:=omega)only[bZ,retI,af,aa,↓reduceIte,Nat.reduceEqDiff,Nat.reduceAdd,Nat.reduceLeDiff,s2,s4,u2,u4]
  exact hQ _ _ ⟨rfl,F1,h2,h3,h4⟩
end Go.Fx.YtgmeefljgbaanaaFx

namespace Go.Fx.YtgmeefljgbaanaaFx
open Go Go.Fx
attribute [local irreducible] aC runI aG aH

set_option maxRecDepth 100000
set_option maxHeartbeats 4000000

theorem lG{l:List Act}(h:fewB l=true):∀a∈l,a.d.length≤100000∧a.nm.size≤50:=fun a ha=>by
 unfold fewB at h
 have:=of_decide_eq_true (List.all_eq_true.1 h a ha)
 exact⟨by omega,this.2⟩
end Go.Fx.YtgmeefljgbaanaaFx

namespace Go.Fx.YtgmeefljgbaanaaFx
open Go Go.Fx
attribute [local irreducible] aC runI aG aH

set_option maxRecDepth 100000
set_option maxHeartbeats 4000000

theorem qQ{st:St}{v:AV}{l:List Pk}(hv:PB v st l)(hl:l.length≤1000):aF Go.Proofs.Try.prog n_f44 [v] st
  (fun w st'=>PB w st' l∧Kp st st' []∧∀x∈ah w,st.boxes.length≤x):=by
 obtain⟨v1,v2,v3,v4,v5,v6,v7,v8⟩:=hv.facts
 refine aK hmix k_f44 rfl rfl fun Q hQ=>?_
 unfold aFun c_f44
 have hb:PB (.bs st.boxes.length 4 0 0 0) (st.push (.cells [])) []:=.inr ⟨st.boxes.length,0,[],rfl,bG st [],Nat.le_refl _,by simp[pcs]⟩
 rcases hv with⟨rfl,rfl⟩|⟨bi,cap,r,rfl,hg,h1,h2⟩
 ·simp(config:=KF) (disch:=omega)only[bZ,retI,bD,lu,a9,nilX_nil,bE,aU,↓reduceIte,Nat.reduceEqDiff,reduceCtorEq]
  exact hQ _ _ ⟨PB.nil _,Kp.refl _ _,by simp[ah]⟩
 ·have hv2:PB (.bs bi 4 0 l.length cap) (st.push (.cells [])) l:=.inr ⟨bi,cap,r,rfl,(bJ (bp (bI hg))).trans hg,h1,h2⟩
  simp(config:=KF) (disch:=omega)only[bZ,bD,lu,a9,nilX_bs,bE,aU,gT,↓reduceIte,Nat.reduceEqDiff,Int.reduceLE,Int.reduceMul,reduceCtorEq,lY,List.flatMap_nil]
  refine hv2.src (hb.app (by simp) (by omega) fun w s1 m1 m2 m3=>?_)
  rw[List.nil_append]at m1
  obtain⟨w1,w2,w3,w4,w5,w6,w7,w8⟩:=m1.facts
  simp(config:=KF) (disch:=omega)only[bZ,retI,bD,↓reduceIte,Nat.reduceEqDiff,reduceCtorEq,w1,w5]
  refine hQ _ _ ⟨m1,⟨by have:=m2.1;rw[aJ]at this;omega,fun i hi _=>?_⟩,fun x hx=>?_⟩
  ·rw[m2.2 i (by rw[aJ];omega) (by simp[ah];omega)]
   exact bp hi
  ·rcases m3 x hx with m|m
   ·simp only[ah,List.mem_singleton]at m
    omega
   ·rw[aJ]at m;omega
end Go.Fx.YtgmeefljgbaanaaFx

