/- What the functions that the statement reaches compute: part 41. -/
import Derived.Test.YtbomoaajkinfpaaFxW40
namespace Go.Fx.YtbomoaajkinfpaaFx
open Go Go.Fx
attribute [local irreducible] aC runI aB aE

set_option maxRecDepth 100000
set_option maxHeartbeats 4000000

theorem at_none {ws:List Wt} {t:Int} (h:ap t ws = none):atW t ws = -1:=by
  unfold atW
  rw [List.findIdx?_eq_none_iff.2]
  · rfl
  · intro w hw
    simpa using js h w hw
theorem at_some {ws:List Wt} {t:Int} {l:List Cs} (h:ap t ws = some l) (hnd:(ws.map (·.1)).Nodup):∃ a,∃ ha:a < ws.length,atW t ws = (a:Int)∧wo t ws = ws.eraseIdx a:=by
  cases hf:ws.findIdx? fun w=>decide (w.1 = t) with
  | none =>
    have:=List.findIdx?_eq_none_iff.1 hf (t,l) (fh h)
    simp at this
  | some a =>
    obtain ⟨ha,hy,hb⟩:=List.findIdx?_eq_some_iff_getElem.1 hf
    have hat:ws[a].1 = t:=by simpa using hy
    refine ⟨a,ha,by unfold atW; rw [hf]; rfl,?_⟩
    have hsp:ws = ws.take a++ws[a]::ws.drop (a + 1):=by rw [← List.drop_eq_getElem_cons ha,List.take_append_drop]
    have key:∀ (A B:List Wt) (w:Wt),wo w.1 (A++w::B) = wo w.1 A++wo w.1 B:=fun A B w=>by simp [wo]
    have hn2:=hnd
    rw [hsp,List.map_append,List.map_cons,List.nodup_append] at hn2
    obtain ⟨n1,n2,n3⟩:=hn2
    rw [List.nodup_cons] at n2
    have h2:wo ws[a].1 ws = wo ws[a].1 (ws.take a++ws[a]::ws.drop (a + 1)):=congrArg (wo ws[a].1) hsp
    rw [← hat,List.eraseIdx_eq_take_drop_succ,h2,key]
    congr 1
    · unfold wo
      rw [List.filter_eq_self]
      intro w hw
      have:=n3 w.1 (List.mem_map_of_mem hw) ws[a].1 List.mem_cons_self
      simpa using this
    · unfold wo
      rw [List.filter_eq_self]
      intro w hw
      have:w.1≠ws[a].1:=fun e=>n2.1 (e ▸ List.mem_map_of_mem hw)
      simpa using this

/-- What is known of a selector as it is seen. -/
structure ROk (R:RS) (n:Nat):Prop where
  nd:(R.ws.map (·.1)).Nodup
  wv:∀ w ∈ R.ws,(w.2.map (·.1)).Nodup
  wl:R.ws.length≤64
  ll:∀ w ∈ R.ws,w.2.length < 100000
  ch:R.ch.length≤16
  bl:∀ c ∈ R.ch,c.2.1.length≤n

def RefP (F:List Nat) (st st':St) (cv':AV) (R':RS):Prop:=∃ F',RefC cv' st' R'.ch F'∧Kp st st' []∧∀ y ∈ F',y ∈ F∨st.boxes.length≤y∧y < st'.boxes.length

section
variable {cv:AV} {st:St} {R:RS} {F:List Nat} {n:Nat}
theorem RefC.self (h:RefC cv st R.ch F):RefP F st st cv R:=⟨F,h,Kp.refl _ _,fun _ hy=>.inl hy⟩

theorem qj (hc:AV.isCh cv) (ho:ROk R n) (t:Int) (st:St):aD Go.Proofs.Try.prog n_f66 [rfA cv R.ws,.lit (.int .i64 t)] st (.tup [rfA cv (dy R t).1.ws,rrA ((0,0,0,0),false,[],(dy R t).2)]):=by
  have hwl:=ho.wl
  obtain ⟨c1,c2,c3,c4,c5,c6,c7⟩:=hc
  obtain ⟨w1,w2,w3,w4,w5,w6,w7,w8⟩:=aw R.ws
  obtain ⟨r1,r2⟩:=cD ⟨c1,c2,c3,c4,c5,c6,c7⟩ R.ws
  have hat:=rat_pure ⟨c1,c2,c3,c4,c5,c6,c7⟩ R.ws (by omega) t st
  refine am hmix k_f66 rfl rfl fun Q hQ=>?_
  unfold aFun c_f66
  unfold dy at hQ
  have e0:it4s [] = .lit (.slice none 0 0):=rfl
  simp only [rfA,rrA,e0] at hQ hat
  simp (config:=KF) (disch:=omega) only [bZ,AI.dst,cC,↓reduceIte,Nat.reduceEqDiff,Nat.reduceAdd,reduceCtorEq,rfA,c2,c4,w2,w4]
  refine aK (fun h1=>?_) (fun h1=>?_)
  · rw [if_pos (.inl h1)] at hQ
    simp (config:=KF) (disch:=omega) only [bZ,retI,AI.dst,ag,aa,↓reduceIte,Nat.reduceEqDiff,Nat.reduceAdd,Nat.reduceLeDiff,c2,c4,w2,w4]
    exact hQ _
  simp (config:=KF) (disch:=omega) only [bZ,AI.dst,cF,↓reduceIte,Nat.reduceEqDiff]
  refine aH (fun h2=>?_) (fun h2=>?_)
  · rw [if_pos (.inr (by omega))] at hQ
    simp (config:=KF) (disch:=omega) only [bZ,retI,ag,aa,↓reduceIte,Nat.reduceEqDiff,Nat.reduceAdd,Nat.reduceLeDiff,c2,c4,w2,w4]
    exact hQ _
  rw [if_neg (by omega)] at hQ
  simp (config:=KF) (disch:=omega) only [bZ,aa,id,↓reduceIte,Nat.reduceEqDiff,Nat.reduceAdd,Nat.reduceLeDiff,c2,w2]
  cases hl:ap t R.ws with
  | none =>
    rw [hl] at hQ
    rw [at_none hl] at hat
    refine aj (by simp only [List.map_cons,List.map_nil,r1]; rfl) e_f77 hat (by simp only [List.all_cons,List.all_nil,r2]; rfl) ?_
    simp (config:=KF) (disch:=omega) only [bZ,retI,ag,aa,↓reduceIte,Nat.reduceEqDiff,Nat.reduceAdd,Nat.reduceLeDiff,Int.reduceLT,Int.reduceNeg,c2,c4,w2,w4]
    exact hQ _
  | some l =>
    obtain ⟨a,ha,e1,e2⟩:=at_some hl ho.nd
    rw [hl] at hQ
    simp only [e2] at hQ
    rw [e1] at hat
    have hdr:=gS ⟨c1,c2,c3,c4,c5,c6,c7⟩ (by omega) ha st
    simp only [rfA] at hdr
    obtain ⟨x1,x2,x3,x4,x5,x6,x7,x8⟩:=aw (R.ws.eraseIdx a)
    refine aj (by simp only [List.map_cons,List.map_nil,r1]; rfl) e_f77 hat (by simp only [List.all_cons,List.all_nil,r2]; rfl) ?_
    simp (config:=KF) (disch:=omega) only [bZ,aa,id,↓reduceIte,Nat.reduceEqDiff,Nat.reduceAdd,Nat.reduceLeDiff,c2,w2]
    refine aj (by simp only [List.map_cons,List.map_nil,r1]; rfl) e_f79 hdr (by simp only [List.all_cons,List.all_nil,r2]; rfl) ?_
    simp (config:=KF) (disch:=omega) only [bZ,retI,ag,aa,↓reduceIte,Nat.reduceEqDiff,Nat.reduceAdd,Nat.reduceLeDiff,c2,c4,x2,x4]
    exact hQ _

theorem oh (h:RefC cv st R.ch F) (hF:∀ x ∈ F,x < st.boxes.length) (ho:ROk R n) (hn:n < 49000) {l:List Cs} (hll:l.length < 100000) (t pick:Int) (w:Bool) :
    aA Go.Proofs.Try.prog n_f65 [rfA cv R.ws,.lit (.int .i64 t),.sl false 3 (l.map csAV),.lit (.int .i64 pick),.lit (.bool w)] st
      (fun r st'=>∃ cv',r = .tup [rfA cv' (cp R t l pick w).1.ws,rrA (cp R t l pick w).2]∧RefP F st st' cv' (cp R t l pick w).1):=by
  have hwl:=ho.wl
  obtain ⟨c1,c2,c3,c4,c5,c6,c7⟩:=h.isCh
  obtain ⟨w1,w2,w3,w4,w5,w6,w7,w8⟩:=aw R.ws
  obtain ⟨r1,r2⟩:=cD h.isCh R.ws
  have hat:=rat_pure h.isCh R.ws (by omega) t st
  have hval:=lK h ho.ch R.ws hll
  have e0:it4s [] = .lit (.slice none 0 0):=rfl
  refine aq hmix k_f65 rfl rfl fun Q hQ=>?_
  unfold aFun c_f65
  generalize hX:cp R t l pick w = X at hQ
  unfold cp at hX
  simp only [rfA] at hQ hat hval
  have hself:=h.self
  simp (config:=KF) (disch:=omega) only [bZ,AI.dst,cC,bS,↓reduceIte,Nat.reduceEqDiff,Nat.reduceAdd,reduceCtorEq,rfA,c2,c4,w2,w4]
  refine aK (fun h1=>?_) (fun h1=>?_)
  · rw [if_pos (.inl h1)] at hX
    subst hX
    have hq:=hQ _ st ⟨cv,rfl,hself⟩
    simp only [rrA,e0] at hq
    simp (config:=KF) (disch:=omega) only [bZ,retI,AI.dst,ag,aa,↓reduceIte,Nat.reduceEqDiff,Nat.reduceAdd,Nat.reduceLeDiff,c2,c4,w2,w4]
    exact hq
  simp (config:=KF) (disch:=omega) only [bZ,AI.dst,cF,↓reduceIte,Nat.reduceEqDiff]
  refine aK (fun h2=>?_) (fun h2=>?_)
  · rw [if_pos (.inr (.inl (by omega)))] at hX
    subst hX
    have hq:=hQ _ st ⟨cv,rfl,hself⟩
    simp only [rrA,e0] at hq
    simp (config:=KF) (disch:=omega) only [bZ,retI,AI.dst,ag,aa,↓reduceIte,Nat.reduceEqDiff,Nat.reduceAdd,Nat.reduceLeDiff,c2,c4,w2,w4]
    exact hq
  simp (config:=KF) (disch:=omega) only [bZ,AI.dst,aa,id,↓reduceIte,Nat.reduceEqDiff,Nat.reduceAdd,Nat.reduceLeDiff,c2,w2]
  refine aj (by simp only [List.map_cons,List.map_nil,r1]; rfl) e_f28 hval (by simp only [List.all_cons,List.all_nil,r2]; rfl) ?_
  cases hv:bP R.ch.length l with
  | false =>
    rw [if_pos (.inr (.inr (.inl hv)))] at hX
    subst hX
    have hq:=hQ _ st ⟨cv,rfl,hself⟩
    simp only [rrA,e0] at hq
    simp (config:=KF) (disch:=omega) only [bZ,retI,AI.dst,ag,aa,unA,↓reduceIte,Nat.reduceEqDiff,Nat.reduceAdd,Nat.reduceLeDiff,c2,c4,w2,w4]
    exact hq
  | true =>
  obtain ⟨q1,q2,q3,q4⟩:=ew hv
  simp (config:=KF) (disch:=omega) only [bZ,AI.dst,unA,↓reduceIte,Nat.reduceEqDiff]
  refine aH (fun h3=>?_) (fun h3=>?_)
  · rw [if_pos (.inr (.inr (.inr h3)))] at hX
    subst hX
    have hq:=hQ _ st ⟨cv,rfl,hself⟩
    simp only [rrA,e0] at hq
    simp (config:=KF) (disch:=omega) only [bZ,retI,ag,aa,↓reduceIte,Nat.reduceEqDiff,Nat.reduceAdd,Nat.reduceLeDiff,c2,c4,w2,w4]
    exact hq
  rw [if_neg (by rintro (q | q | q | q); omega; omega; rw [hv] at q; cases q; omega)] at hX
  simp (config:=KF) (disch:=omega) only [bZ,aa,id,↓reduceIte,Nat.reduceEqDiff,Nat.reduceAdd,Nat.reduceLeDiff,c2,w2]
  cases hl:ap t R.ws with
  | some b =>
    rw [hl] at hX
    subst hX
    obtain ⟨a,ha,e1,e2⟩:=at_some hl ho.nd
    rw [e1] at hat
    have hq:=hQ _ st ⟨cv,rfl,hself⟩
    simp only [rrA,e0] at hq
    refine aj (by simp only [List.map_cons,List.map_nil,r1]; rfl) e_f77 hat (by simp only [List.all_cons,List.all_nil,r2]; rfl) ?_
    simp (config:=KF) (disch:=omega) only [bZ,retI,ag,aa,cF,↓reduceIte,Nat.reduceEqDiff,Nat.reduceAdd,Nat.reduceLeDiff,c2,c4,w2,w4]
    exact hq
  | none =>
  rw [hl] at hX
  simp only at hX
  rw [at_none hl] at hat
  refine aj (by simp only [List.map_cons,List.map_nil,r1]; rfl) e_f77 hat (by simp only [List.all_cons,List.all_nil,r2]; rfl) ?_
  have hrdy:=kl h (by omega) ho.ll hll q2
  simp only [rfA] at hrdy
  obtain ⟨i1,i2,i3,i4,i5,i6,i7,i8⟩:=cw (aJ R 0 l)
  simp (config:=KF) (disch:=omega) only [bZ,aa,cF,id,↓reduceIte,Nat.reduceEqDiff,Nat.reduceAdd,Nat.reduceLeDiff,Int.reduceNeg,c2,w2]
  refine aj (by simp only [List.map_cons,List.map_nil,r1]; rfl) e_f49 hrdy (by simp only [List.all_cons,List.all_nil,r2]; rfl) ?_
  by_cases hrx:aJ R 0 l = []
  · rw [if_pos hrx] at hX
    have hzero:(aJ R 0 l).length = 0:=by rw [hrx]; rfl
    cases w with
    | false =>
      rw [if_pos rfl] at hX
      subst hX
      have hq:=hQ _ st ⟨cv,rfl,hself⟩
      simp only [rrA,e0] at hq
      simp (config:=KF) (disch:=omega) only [bZ,retI,ag,aa,unA,dA,↓reduceIte,Nat.reduceEqDiff,Nat.reduceAdd,Nat.reduceLeDiff,c2,c4,w2,w4,i1,i8,hzero]
      exact hq
    | true =>
      rw [if_neg (by simp)] at hX
      subst hX
      have hne:R.ws++[(t,l)]≠[]:=by simp
      have hcs:csSl l = .sl false 3 (l.map csAV):=if_neg q4
      have hw1:wtS (R.ws++[(t,l)]) = .sl false 2 (R.ws.map wtA2++[.agg [.lit (.int .i64 t),.sl false 3 (l.map csAV)]]):=by
        unfold wtS
        rw [if_neg hne,List.map_append,← hcs]; rfl
      have hq:=hQ (.tup [.agg [cv,wtS (R.ws++[(t,l)])],rrA ((0,0,0,0),false,[],0)]) st ⟨cv,rfl,F,h,Kp.refl _ _,fun _ hy=>.inl hy⟩
      simp only [rrA,e0,hw1] at hq
      have hemp:∀ l:List Wt,(l.map wtA2).isEmpty = decide (l = []):=fun l=>by cases l <;> simp
      have hcemp:(l.map csAV).isEmpty = false:=by cases l with | nil=>exact absurd rfl q4 | cons a l=>rfl
      have hcd:(l.map csAV).map AV.dis = l.map csAV:=csAV_dis l
      have hdis:(R.ws.map wtA2).map AV.dis = R.ws.map wtA2:=by
        rw [List.map_map]
        refine List.map_congr_left fun w _=>?_
        obtain ⟨v1,v2,v3,v4,v5,v6,v7⟩:=bk w.2
        show (wtA2 w).dis = wtA2 w
        unfold wtA2
        rw [eS,List.map_cons,List.map_cons,v2,List.map_nil]
        rfl
      by_cases hw:R.ws = []
      · have e3:wtS R.ws = .lit (.slice none 0 0):=by rw [hw]; rfl
        rw [hw] at hq
        simp only [List.map_nil,List.nil_append] at hq
        rw [e3] at w1 w2 w3 w4 w5 w6 w7 r1 r2 ⊢
        simp (config:=KF) (disch:=omega) only [bZ,retI,o_app,dZ,eO,ag,List.isEmpty_nil,List.reduceReplicate,addA,aa,bR,srcA,unA,dA,bu,fU,d8,↓reduceIte,Nat.reduceEqDiff,Nat.reduceAdd,Nat.reduceLT,Nat.reduceLeDiff,ba,c2,c4,i1,i8,hzero,hcemp,hcd]
        exact hq
      · have e3:wtS R.ws = .sl false 2 (R.ws.map wtA2):=if_neg hw
        have hemp2:(R.ws.map wtA2).isEmpty = false:=by rw [hemp]; simpa using hw
        rw [e3] at w1 w2 w3 w4 w5 w6 w7 r1 r2 ⊢
        simp (config:=KF) (disch:=omega) only [bZ,retI,o_app,dZ,eO,ag,List.reduceReplicate,addA,aa,bR,cK,srcA,unA,dA,bu,fU,d8,↓reduceIte,Nat.reduceEqDiff,Nat.reduceAdd,Nat.reduceLT,Nat.reduceLeDiff,ba,iJ,c2,c4,i1,i8,hzero,hcemp,hcd,hemp2,hdis]
        exact hq
  · rw [if_neg hrx] at hX
    obtain ⟨p,rfl⟩:∃ p:Nat,pick = (p:Int):=⟨pick.toNat,by omega⟩
    have hlp:0 < (aJ R 0 l).length:=List.length_pos_iff.2 hrx
    have his:intS (aJ R 0 l) = .sl false 1 (ints (aJ R 0 l)):=if_neg hrx
    have hml:p % (aJ R 0 l).length < (aJ R 0 l).length:=Nat.mod_lt _ hlp
    obtain ⟨j,hj⟩:∃ j,j = (aJ R 0 l).getD (p % (aJ R 0 l).length) 0:=⟨_,rfl⟩
    have hjm:j ∈ aJ R 0 l:=by
      rw [hj,List.getD_eq_getElem?_getD,List.getElem?_eq_getElem hml]
      exact List.getElem_mem hml
    obtain ⟨j1,j2,j3⟩:=kU hjm
    rw [Int.toNat_natCast,← hj] at hX
    obtain ⟨k,rfl⟩:∃ k:Nat,j = (k:Int):=⟨j.toNat,by omega⟩
    have hk:k < l.length:=by omega
    have hgd:(ints (aJ R 0 l)).getD ((p:Int) % ((aJ R 0 l).length:Int)).toNat .any = .lit (.int .i64 (k:Nat)):=by
      have e:((p:Int) % ((aJ R 0 l).length:Int)).toNat = p % (aJ R 0 l).length:=by
        rw [← Int.natCast_emod,Int.toNat_natCast]
      rw [e,hj]
      simp [ints,List.getD_eq_getElem?_getD,hml]
    have hxk:l.getD k (0,false,0) = l[k]:=by simp [hk]
    have j4:rdyR R l[k] = true:=by
      have:((k:Int) - ((0:Nat):Int)).toNat = k:=by omega
      rw [this,hxk] at j3
      exact j3
    rw [Int.toNat_natCast,hxk] at hX
    have hgd2:(l.map csAV).getD k .any = csAV l[k]:=by simp [hk]
    have hca:=qi h hF (by omega) ho.ll ho.nd ho.wv ho.ch (fun c hc=>by have:=ho.bl c hc; omega) (q2 l[k] (List.getElem_mem hk)) j4 t (k:Nat)
    generalize aP R l[k] = Y at hca hX
    subst hX
    rw [his]
    simp only [rfA,csAV] at hca
    simp (config:=KF) (disch:=omega) only [bZ,ixSV,lenI,aa,dA,↓reduceIte,Nat.reduceEqDiff,n_rem,IntWalk.rem_in,ak,hgd]
    refine nr ⟨[]⟩ (St.sub_nil _) ?_
    simp (config:=KF) (disch:=omega) only [bZ,Nat.reduceBEq,eP,dM,fG,gp,mm_ixS,df,ir,fB,i0,ja,fZ,ixSV,aa,id,List.nil_append,List.cons_append,↓reduceIte,Nat.reduceEqDiff,Nat.reduceAdd,Nat.reduceLeDiff,or_false,c2,w2,hgd2,csAV]
    refine iu (by simp only [List.map_cons,List.map_nil,r1]; rfl) e_f78 hca (by simp only [List.all_cons,List.all_nil,r2]; rfl) ?_
    simp (config:=KF) (disch:=omega) only [bZ,Nat.reduceBEq,Bool.or_true,ksB,aG,aV,aZ,aF,nstB,a9,iq,l3,j8,eF,hm_new,l5,AI.dst,putN,List.nil_append,List.cons_append,↓reduceIte,Nat.reduceEqDiff,or_true,or_false]
    rintro r st1 ⟨cv',F',rfl,g1,g2,g3⟩
    refine ⟨St.sub_nil _,?_⟩
    obtain ⟨d1,d2,d3,d4,d5,d6,d7⟩:=g1.isCh
    obtain ⟨x1,x2,x3,x4,x5,x6,x7,x8⟩:=aw Y.1.ws
    obtain ⟨y1,y2,y3,y4,y5,y6,y7⟩:=bp Y.2.2.2
    have hq:=hQ _ st1 ⟨cv',rfl,F',g1,g2,fun y hy=>.inr (g3 y hy)⟩
    simp only [rrA] at hq
    simp (config:=KF) (disch:=omega) only [bZ,Nat.reduceBEq,Bool.or_true,Bool.true_or,ksB,aG,aV,aZ,aF,bV,bC,nq,nstB,a9,cf,Option.getD_some,nst_beq,eP,dM,fG,gp,mm_ext,eE,dS,l6,compM_tn,j9,eG,fV,m_new,m_nst,l5,mm_store,kL,eD,cG,ck,dK,dl,retI,ag,aa,dj,gm,ci,bS,dH,List.nil_append,List.cons_append,↓reduceIte,Nat.reduceEqDiff,Nat.reduceAdd,Nat.reduceLeDiff,true_or,or_true,or_false,bL,d2,d4,x2,x4,y1,y2,y3,y4,y6,y7]
    exact hq
end
end Go.Fx.YtbomoaajkinfpaaFx

