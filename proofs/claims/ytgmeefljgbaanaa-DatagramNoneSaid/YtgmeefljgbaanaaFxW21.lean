/- What the functions that the statement reaches compute: part 21. -/
import Derived.Test.YtgmeefljgbaanaaFxW20
namespace Go.Fx.YtgmeefljgbaanaaFx
open Go Go.Fx
attribute [local irreducible] aC runI aE bz

set_option maxRecDepth 100000
set_option maxHeartbeats 4000000

/-! Results are compared; nil and zero nets. -/
structure RO where
  n:Int
  done:Bool
  one:Rc
  all:List Rc
  err:Int
def resV (x:RO) (w av:AV):AV:=resA x.n x.done x.one.task x.one.nm x.one.port w x.one.at_ x.one.cut x.one.err av x.err
def eqRO (a b:RO):Bool:=decide (a.n = b.n∧a.done = b.done∧eqRc a.one b.one = true∧eU a.all b.all = true∧a.err = b.err)
theorem rsame_pure {st:St} {P P':Nat→Prop} {v w va wa:AV} {a b:RO} (hv:DV v st a.one.data) (hw:DV w st b.one.data) (ha:AllV P false va st a.all) (hb:AllV P' false wa st b.all) (la:a.all.length < 100000) (lb:b.all.length < 100000) :
    ao Go.Proofs.Try.prog n_f24 [resV a v va,resV b w wa] st (.lit (.bool (eqRO a b))):=by
  obtain ⟨v1,v2,v3,v4,v5,v6,v7,v8⟩:=hv.facts
  obtain ⟨w1,w2,w3,w4,w5,w6,w7,w8⟩:=hw.facts
  obtain ⟨a1,a2,a3,a4,a5,a6,a7,a8⟩:=ha.facts
  obtain ⟨b1,b2,b3,b4,b5,b6,b7,b8⟩:=hb.facts
  refine al hmix k_f24 rfl rfl fun Q hQ=>?_
  unfold aFun c_f24
  unfold resV resA
  unfold eqRO at hQ
  have hfin:∀ x,x = decide (a.n = b.n∧a.done = b.done∧eqRc a.one b.one = true∧eU a.all b.all = true∧a.err = b.err)→∀ st',Q (.lit (.bool x)) st':=fun x hx st'=>by rw [hx]; exact hQ st'
  simp (config:=KF) (disch:=omega) only [bZ,AI.dst,dz,addA,aa,bw,↓reduceIte,Nat.reduceEqDiff,Nat.reduceAdd,reduceCtorEq,v2,v4,w2,w4,a2,a4,b2,b4]
  refine bd (fun h1=>?_) (fun h1=>?_)
  · by_cases h2:a.done = b.done
    · have hbb:binI .bool .eql (.lit (.bool a.done)) (.lit (.bool b.done)) = .ok (.lit (.bool true)):=by rw [h2]; cases b.done <;> rfl
      simp (config:=KF) (disch:=omega) only [bZ,AI.dst,addA,aa,id,↓reduceIte,Nat.reduceEqDiff,Nat.reduceAdd,Nat.reduceLeDiff,hbb,v2,w2]
      refine aj (vs:=[rcAV a.one.task a.one.nm a.one.port v a.one.at_ a.one.cut a.one.err,rcAV b.one.task b.one.nm b.one.port w b.one.at_ b.one.cut b.one.err]) (by simp [rcAV,v1,w1,v2,w2,da,cc]) e_f32 (iM hv hw) (by simp [rcAV,v5,w5,aF]) ?_
      simp (config:=KF) (disch:=omega) only [bZ,AI.dst,↓reduceIte,Nat.reduceEqDiff]
      cases h3:eqRc a.one b.one with
      | true =>
        simp (config:=KF) (disch:=omega) only [bZ,AI.dst,addA,aa,id,↓reduceIte,Nat.reduceEqDiff,a1,b1]
        refine aj (vs:=[va,wa]) (by simp [a1,b1]) e_f46 (nS ha hb la lb) (by simp [a5,b5]) ?_
        simp (config:=KF) (disch:=omega) only [bZ,AI.dst,↓reduceIte,Nat.reduceEqDiff]
        cases h4:eU a.all b.all with
        | true =>
          simp (config:=KF) (disch:=omega) only [bZ,retI,AI.dst,addA,aa,↓reduceIte,Nat.reduceEqDiff]
          exact hfin _ (by simp [h1,h2,h3,h4]) _
        | false =>
          simp (config:=KF) (disch:=omega) only [bZ,retI,AI.dst,↓reduceIte,Nat.reduceEqDiff]
          exact hfin _ (by simp [h4]) _
      | false =>
        simp (config:=KF) (disch:=omega) only [bZ,retI,AI.dst,↓reduceIte,Nat.reduceEqDiff]
        exact hfin _ (by simp [h3]) _
    · have hbb:binI .bool .eql (.lit (.bool a.done)) (.lit (.bool b.done)) = .ok (.lit (.bool false)):=by
        cases hx:a.done <;> cases hy:b.done <;> first | rfl | exact absurd (hx.trans hy.symm) h2
      simp (config:=KF) (disch:=omega) only [bZ,retI,AI.dst,addA,aa,↓reduceIte,Nat.reduceEqDiff,hbb]
      exact hfin _ (by simp [h2]) _
  · simp (config:=KF) (disch:=omega) only [bZ,retI,AI.dst,↓reduceIte,Nat.reduceEqDiff]
    exact hfin _ (by simp [h1]) _

theorem none_calls (w t n m:Int) (nm:ByteArray) (port pol life:Int) (es:List AV) (at_:Int) (st:St):aw Go.Proofs.Try.prog n_f7 [actA w t n m nm port pol life (.sl false 1 es) at_] st (fun v _=>v = .lit (.bool true)):=by
  refine aJ hmix k_f7 rfl rfl fun Q hQ=>?_
  unfold aFun c_f7
  unfold actA
  simp (config:=KF) (disch:=omega) only [bZ,dn,dz,oG,bstV,aK,cE,↓reduceIte,Nat.reduceEqDiff,Nat.reduceAdd,reduceCtorEq]
  rw [f7_11w]
  obtain ⟨s1,hs1⟩:∃ s1,s1 = st.push (.cells [.lit (.int .u64 0),.lit (.map none),.lit (.map none)]):=⟨_,rfl⟩
  have hz0:ZN (.lit (.pointer none)) s1:=.inl rfl
  have hz1:ZN (.ptr st.boxes.length 0) s1:=.inr ⟨_,rfl,by rw [hs1]; exact cd _ _⟩
  have hsame:∀ s,ao Go.Proofs.Try.prog n_f24 [resV ⟨0,false,rc0,[],1⟩ (.lit (.slice none 0 0)) (.lit (.slice none 0 0)),resV ⟨0,false,rc0,[],1⟩ (.lit (.slice none 0 0)) (.lit (.slice none 0 0))] s (.lit (.bool true)):=fun s =>
    rsame_pure (P:=fun _=>True) (P':=fun _=>True) (.inl ⟨rfl,rfl⟩) (.inl ⟨rfl,rfl⟩) (.inl ⟨rfl,rfl⟩) (.inl ⟨rfl,rfl⟩) (by decide) (by decide)
  generalize st.boxes.length = z at hz1
  rw [← hs1]
  refine fg (A:=Nat×St) (fun a=>2 - a.1) (fun a=>⟨[(1,.lptr 1 0),(3,.lit (.pointer none)),(4,.ptr z 0),(5,.lit (.int .i64 (a.1:Nat)))],[(1,[.lit (.int .i64 w),.lit (.int .i64 t),.lit (.int .i64 n),.lit (.int .i64 m),.lit (.string nm),.lit (.int .i64 port),.lit (.int .i64 pol),.lit (.int .u64 life),.sl false 1 es,.lit (.int .u64 at_)])]⟩) (fun a=>a.2)
    (fun a=>a.1≤2∧ZN (.ptr z 0) a.2) (0,s1) ⟨Nat.zero_le _,hz1⟩ (Sf.le_refl _) rfl ?_
  intro a ha K hK hKe hKr
  obtain ⟨i,sa⟩:=a
  obtain ⟨hi,hz1⟩:=ha
  simp only at hi hz1
  have hz0:ZN (.lit (.pointer none)) sa:=.inl rfl
  by_cases hlt:i < 2
  · obtain rfl | rfl:i = 0∨i = 1:=by omega
    · have hz:=hz0
      simp (config:=KF) (disch:=omega) only [bZ,aa,eg,id,↓reduceIte,Nat.reduceEqDiff,Nat.reduceAdd,Nat.reduceLeDiff,Int.reduceLT,Int.reduceEq]
      refine aY (vs:=[.lit (.pointer none),actA w t n m nm port pol life (.sl false 1 es) at_]) rfl e_f14 (z_do hz w t n m nm port pol life es at_) rfl fun x s2 hr=>?_
      obtain ⟨rfl,hk⟩:=hr
      have hz:=hz.kp (F:=[]) hk
      have hz1:=hz1.kp (F:=[]) hk
      unfold resA
      simp (config:=KF) (disch:=omega) only [bZ,and_self,dn,bstV,aK,id,↓reduceIte,Nat.reduceEqDiff,Nat.reduceAdd,Nat.reduceLeDiff]
      refine aj rfl e_f24 (hsame _) rfl ?_
      simp (config:=KF) (disch:=omega) only [bZ,AI.dst,o_un,addA,aa,unA,id,↓reduceIte,Nat.reduceEqDiff]
      refine aj rfl e_f15 (z_len hz n) rfl ?_
      simp (config:=KF) (disch:=omega) only [bZ,AI.dst,addA,aa,cC,id,↓reduceIte,Nat.reduceEqDiff,not_true_eq_false]
      refine aj rfl e_f17 (z_dr hz n) rfl ?_
      simp (config:=KF) (disch:=omega) only [bZ,AI.dst,addA,aa,cC,id,↓reduceIte,Nat.reduceEqDiff,not_true_eq_false]
      refine aj rfl e_f18 (z_old hz n) rfl ?_
      simp (config:=KF) (disch:=omega) only [bZ,AI.dst,addA,aa,cC,id,↓reduceIte,Nat.reduceEqDiff,not_true_eq_false]
      refine aj rfl e_f16 (z_wait hz n) rfl ?_
      simp (config:=KF) (disch:=omega) only [bZ,AI.dst,cC,id,↓reduceIte,Nat.reduceEqDiff,not_true_eq_false]
      refine aj rfl e_f25 (z_now hz) rfl ?_
      simp (config:=KF) (disch:=omega) only [bZ,AI.dst,cC,id,↓reduceIte,Nat.reduceEqDiff,not_true_eq_false]
      refine aj rfl e_f23 (z_copy hz) rfl ?_
      simp (config:=KF) (disch:=omega) only [bZ,ak,AI.dst,g5,aV,aH,eO,↓reduceIte,Nat.reduceEqDiff,Int.zero_add]
      exact hK (1,s2) _ ⟨by simp,hz1⟩ (by simp) (Sf.le_refl _)
    · have hz:=hz1
      simp (config:=KF) (disch:=omega) only [bZ,aa,eg,id,↓reduceIte,Nat.reduceEqDiff,Nat.reduceAdd,Nat.reduceLeDiff,Int.reduceLT]
      refine aY (vs:=[.ptr z 0,actA w t n m nm port pol life (.sl false 1 es) at_]) rfl e_f14 (z_do hz w t n m nm port pol life es at_) rfl fun x s2 hr=>?_
      obtain ⟨rfl,hk⟩:=hr
      have hz:=hz.kp (F:=[]) hk
      have hz1:=hz1.kp (F:=[]) hk
      unfold resA
      simp (config:=KF) (disch:=omega) only [bZ,and_self,dn,bstV,aK,id,↓reduceIte,Nat.reduceEqDiff,Nat.reduceAdd,Nat.reduceLeDiff]
      refine aj rfl e_f24 (hsame _) rfl ?_
      simp (config:=KF) (disch:=omega) only [bZ,AI.dst,o_un,addA,aa,unA,id,↓reduceIte,Nat.reduceEqDiff]
      refine aj rfl e_f15 (z_len hz n) rfl ?_
      simp (config:=KF) (disch:=omega) only [bZ,AI.dst,addA,aa,cC,id,↓reduceIte,Nat.reduceEqDiff,not_true_eq_false]
      refine aj rfl e_f17 (z_dr hz n) rfl ?_
      simp (config:=KF) (disch:=omega) only [bZ,AI.dst,addA,aa,cC,id,↓reduceIte,Nat.reduceEqDiff,not_true_eq_false]
      refine aj rfl e_f18 (z_old hz n) rfl ?_
      simp (config:=KF) (disch:=omega) only [bZ,AI.dst,addA,aa,cC,id,↓reduceIte,Nat.reduceEqDiff,not_true_eq_false]
      refine aj rfl e_f16 (z_wait hz n) rfl ?_
      simp (config:=KF) (disch:=omega) only [bZ,AI.dst,cC,id,↓reduceIte,Nat.reduceEqDiff,not_true_eq_false]
      refine aj rfl e_f25 (z_now hz) rfl ?_
      simp (config:=KF) (disch:=omega) only [bZ,AI.dst,cC,id,↓reduceIte,Nat.reduceEqDiff,not_true_eq_false]
      refine aj rfl e_f23 (z_copy hz) rfl ?_
      simp (config:=KF) (disch:=omega) only [bZ,ak,AI.dst,g5,aV,aH,eO,↓reduceIte,Nat.reduceEqDiff,Int.reduceAdd]
      exact hK (2,s2) _ ⟨by simp,hz1⟩ (by simp) (Sf.le_refl _)
  · obtain rfl:i = 2:=by omega
    simp (config:=KF) (disch:=omega) only [bZ,b9,dw,eg,↓reduceIte,Nat.reduceEqDiff,Int.reduceLT]
    refine hKe _ _ _ ?_
    simp (config:=KF) (disch:=omega) only [bZ,bA,id,↓reduceIte]
    refine aY rfl e_f11 (known_calls _) rfl fun v s2 hr=>?_
    obtain ⟨rfl,_⟩:=hr
    simp (config:=KF) (disch:=omega) only [bZ,retI,↓reduceIte,Nat.reduceEqDiff]
    exact hQ _ _ rfl

theorem ka {x:Int×Int×Int×Int×(ByteArray×Int×Unit)×Int×Int×List Int×Int×Unit}:aw Go.Proofs.Try.prog n_f7 [.agg [.lit (.int .i64 x.1),.lit (.int .i64 x.2.1),.lit (.int .i64 x.2.2.1),.lit (.int .i64 x.2.2.2.1),.lit (.string x.2.2.2.2.1.1),.lit (.int .i64 x.2.2.2.2.1.2.1),.lit (.int .i64 x.2.2.2.2.2.1),.lit (.int .u64 x.2.2.2.2.2.2.1),.sl false 1 (x.2.2.2.2.2.2.2.1.map fun i=>.lit (.int .u8 i)),.lit (.int .u64 x.2.2.2.2.2.2.2.2.1)]] ⟨[]⟩ (fun v _=>v = .lit (.bool true)) :=
  none_calls _ _ _ _ _ _ _ _ _ _ _
end Go.Fx.YtgmeefljgbaanaaFx

