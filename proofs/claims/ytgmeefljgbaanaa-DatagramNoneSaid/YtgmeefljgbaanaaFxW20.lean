/- What the functions that the statement reaches compute: part 20. -/
import Derived.Test.YtgmeefljgbaanaaFxW19
namespace Go.Fx.YtgmeefljgbaanaaFx
open Go Go.Fx
attribute [local irreducible] aC runI aE bz

set_option maxRecDepth 100000
set_option maxHeartbeats 4000000

/-! Nil and zero nets. -/
def ZN (v:AV) (st:St):Prop:=v = .lit (.pointer none)∨∃ z,v = .ptr z 0∧st.get z = some [.lit (.int .u64 0),.lit (.map none),.lit (.map none)]
section
variable {st:St} {v:AV}
theorem fp (h:ZN v st):ao Go.Proofs.Try.prog n_f26 [v] st (.lit (.bool true)):=by
  refine al hmix k_f26 rfl rfl fun Q hQ=>?_
  unfold aFun c_f26
  rcases h with rfl | ⟨z,rfl,hg⟩
  · simp (config:=KF) (disch:=omega) only [bZ,retI,AI.dst,bH,aV,aH,↓reduceIte,Nat.reduceEqDiff,reduceCtorEq]
    exact hQ _
  · simp (config:=KF) (disch:=omega) only [bZ,retI,AI.dst,ap,bH,aV,aH,addA,aa,↓reduceIte,Nat.reduceEqDiff,reduceCtorEq,hg]
    exact hQ _
theorem ZN.facts (h:ZN v st):v.dis = v∧v.own1 = v∧v.own2 = v∧v.solid1 = true∧v.noL = true∧v.cells = [v]∧∀ s,kill s v = v:=by
  rcases h with rfl | ⟨z,rfl,hg⟩ <;> exact ⟨rfl,rfl,rfl,rfl,rfl,rfl,fun _=>rfl⟩
theorem ZN.kp {st':St} {F:List Nat} (h:ZN v st) (hk:Kp st st' []):ZN v st':=by
  rcases h with rfl | ⟨z,rfl,hg⟩
  · exact .inl rfl
  · exact .inr ⟨z,rfl,by rw [dA (hk.2 z (bM hg) (by simp))]; exact hg⟩
theorem z_bind (h:ZN v st) (nm:ByteArray) (port p b pol life:Int):ao Go.Proofs.Try.prog n_f9 [v,adAV nm port,.lit (.int .i64 p),.lit (.int .i64 b),.lit (.int .i64 pol),.lit (.int .u64 life)] st (.tup [.lit (.int .i64 0),.lit (.int .i64 1)]):=by
  obtain ⟨v1,v2,v3,v4,v5,v6,v7⟩:=h.facts
  refine al hmix k_f9 rfl rfl fun Q hQ=>?_
  unfold aFun c_f9
  simp (config:=KF) (disch:=omega) only [bZ,dz,id,aL,↓reduceIte,Nat.reduceEqDiff,Nat.reduceAdd,reduceCtorEq,v1,v7,adAV]
  refine aj (vs:=[v]) (by simp [v1]) e_f26 (fp h) (by simp [v5]) ?_
  simp (config:=KF) (disch:=omega) only [bZ,aI,retI,↓reduceIte,Nat.reduceEqDiff,reduceCtorEq]
  exact hQ _
theorem z_send (h:ZN v st) (a port:Int) (nm:ByteArray) (d:AV) (hd:d.dis = d):ao Go.Proofs.Try.prog n_f36 [v,.lit (.int .i64 a),adAV nm port,d] st (.tup [.lit (.slice none 0 0),.lit (.int .i64 1)]):=by
  obtain ⟨v1,v2,v3,v4,v5,v6,v7⟩:=h.facts
  refine al hmix k_f36 rfl rfl fun Q hQ=>?_
  unfold aFun c_f36
  simp (config:=KF) (disch:=omega) only [bZ,dz,id,aL,↓reduceIte,Nat.reduceEqDiff,Nat.reduceAdd,reduceCtorEq,v1,v7,hd,adAV]
  refine aj (vs:=[v]) (by simp [v1]) e_f26 (fp h) (by simp [v5]) ?_
  simp (config:=KF) (disch:=omega) only [bZ,aI,retI,↓reduceIte,Nat.reduceEqDiff,reduceCtorEq]
  exact hQ _
theorem z_recv (h:ZN v st) (a b c:Int):ao Go.Proofs.Try.prog n_f34 [v,.lit (.int .i64 a),.lit (.int .i64 b),.lit (.int .i64 c)] st (.tup [rcAV 0 ⟨#[]⟩ 0 (.lit (.slice none 0 0)) 0 false 0,.lit (.bool false),.lit (.int .i64 1)]):=by
  obtain ⟨v1,v2,v3,v4,v5,v6,v7⟩:=h.facts
  refine al hmix k_f34 rfl rfl fun Q hQ=>?_
  unfold aFun c_f34
  simp (config:=KF) (disch:=omega) only [bZ,cN,id,aL,↓reduceIte,Nat.reduceEqDiff,Nat.reduceAdd,reduceCtorEq,v1,v7]
  refine aj (vs:=[v]) (by simp [v1]) e_f26 (fp h) (by simp [v5]) ?_
  simp (config:=KF) (disch:=omega) only [bZ,retI,dn,bstV,ar,aa,aK,aF,↓reduceIte,Nat.reduceEqDiff,Nat.reduceAdd,Nat.reduceLeDiff,reduceCtorEq]
  exact hQ _
theorem z_try (h:ZN v st) (a b:Int):ao Go.Proofs.Try.prog n_f31 [v,.lit (.int .i64 a),.lit (.int .i64 b)] st (.tup [rcAV 0 ⟨#[]⟩ 0 (.lit (.slice none 0 0)) 0 false 0,.lit (.int .i64 1)]):=by
  obtain ⟨v1,v2,v3,v4,v5,v6,v7⟩:=h.facts
  refine al hmix k_f31 rfl rfl fun Q hQ=>?_
  unfold aFun c_f31
  simp (config:=KF) (disch:=omega) only [bZ,cN,id,aL,↓reduceIte,Nat.reduceEqDiff,Nat.reduceAdd,reduceCtorEq,v1,v7]
  refine aj (vs:=[v]) (by simp [v1]) e_f26 (fp h) (by simp [v5]) ?_
  simp (config:=KF) (disch:=omega) only [bZ,retI,dn,bstV,ar,aa,aK,aF,↓reduceIte,Nat.reduceEqDiff,Nat.reduceAdd,Nat.reduceLeDiff,reduceCtorEq]
  exact hQ _
theorem z_cancel (h:ZN v st) (a:Int):ao Go.Proofs.Try.prog n_f37 [v,.lit (.int .i64 a)] st (.lit (.int .i64 1)):=by
  obtain ⟨v1,v2,v3,v4,v5,v6,v7⟩:=h.facts
  refine al hmix k_f37 rfl rfl fun Q hQ=>?_
  unfold aFun c_f37
  simp (config:=KF) (disch:=omega) only [bZ,id,↓reduceIte,Nat.reduceEqDiff,reduceCtorEq,v1]
  refine aj (vs:=[v]) (by simp [v1]) e_f26 (fp h) (by simp [v5]) ?_
  simp (config:=KF) (disch:=omega) only [bZ,retI,↓reduceIte,Nat.reduceEqDiff,reduceCtorEq]
  exact hQ _
theorem z_adv (h:ZN v st) (a:Int):ao Go.Proofs.Try.prog n_f38 [v,.lit (.int .u64 a)] st (.tup [.lit (.int .i64 0),.lit (.int .i64 1)]):=by
  obtain ⟨v1,v2,v3,v4,v5,v6,v7⟩:=h.facts
  refine al hmix k_f38 rfl rfl fun Q hQ=>?_
  unfold aFun c_f38
  simp (config:=KF) (disch:=omega) only [bZ,id,↓reduceIte,Nat.reduceEqDiff,reduceCtorEq,v1]
  refine aj (vs:=[v]) (by simp [v1]) e_f26 (fp h) (by simp [v5]) ?_
  simp (config:=KF) (disch:=omega) only [bZ,retI,↓reduceIte,Nat.reduceEqDiff,reduceCtorEq]
  exact hQ _
theorem z_now (h:ZN v st):ao Go.Proofs.Try.prog n_f25 [v] st (.lit (.int .u64 0)):=by
  obtain ⟨v1,v2,v3,v4,v5,v6,v7⟩:=h.facts
  refine al hmix k_f25 rfl rfl fun Q hQ=>?_
  unfold aFun c_f25
  simp (config:=KF) (disch:=omega) only [bZ,id,↓reduceIte,reduceCtorEq,v1]
  refine aj (vs:=[v]) (by simp [v1]) e_f26 (fp h) (by simp [v5]) ?_
  simp (config:=KF) (disch:=omega) only [bZ,retI,↓reduceIte,Nat.reduceEqDiff,reduceCtorEq]
  exact hQ _
theorem z_copy (h:ZN v st):ao Go.Proofs.Try.prog n_f23 [v] st (.lit (.pointer none)):=by
  obtain ⟨v1,v2,v3,v4,v5,v6,v7⟩:=h.facts
  refine al hmix k_f23 rfl rfl fun Q hQ=>?_
  unfold aFun c_f23
  simp (config:=KF) (disch:=omega) only [bZ,id,↓reduceIte,reduceCtorEq,v1]
  refine aj (vs:=[v]) (by simp [v1]) e_f26 (fp h) (by simp [v5]) ?_
  simp (config:=KF) (disch:=omega) only [bZ,retI,↓reduceIte,Nat.reduceEqDiff,reduceCtorEq]
  exact hQ _
theorem z_at (h:ZN v st) (a:Int):ao Go.Proofs.Try.prog n_f39 [v,.lit (.int .i64 a)] st (atA none):=by
  obtain ⟨v1,v2,v3,v4,v5,v6,v7⟩:=h.facts
  refine al hmix k_f39 rfl rfl fun Q hQ=>?_
  unfold aFun c_f39
  simp (config:=KF) (disch:=omega) only [bZ,cN,id,aL,↓reduceIte,Nat.reduceEqDiff,reduceCtorEq,v1,v7]
  refine aj (vs:=[v]) (by simp [v1]) e_f26 (fp h) (by simp [v5]) ?_
  simp (config:=KF) (disch:=omega) only [bZ,retI,AI.dst,dn,bstV,ar,aa,aK,aF,↓reduceIte,Nat.reduceEqDiff,Nat.reduceAdd,Nat.reduceLeDiff,reduceCtorEq]
  exact hQ _
theorem z_wait (h:ZN v st) (a:Int):ao Go.Proofs.Try.prog n_f16 [v,.lit (.int .i64 a)] st (.lit (.int .i64 0)):=by
  obtain ⟨v1,v2,v3,v4,v5,v6,v7⟩:=h.facts
  refine al hmix k_f16 rfl rfl fun Q hQ=>?_
  unfold aFun c_f16
  simp (config:=KF) (disch:=omega) only [bZ,id,↓reduceIte,Nat.reduceEqDiff,reduceCtorEq,v1]
  refine aj (vs:=[v,.lit (.int .i64 a)]) (by simp [v1,cS]) e_f39 (z_at h a) (by simp [v5,db]) ?_
  simp (config:=KF) (disch:=omega) only [bZ,d8,dY,id,↓reduceIte,Nat.reduceEqDiff,reduceCtorEq,atA]
  refine aj rfl e_f40 (qlenN_pure st) rfl ?_
  simp (config:=KF) (disch:=omega) only [bZ,retI,↓reduceIte,Nat.reduceEqDiff,reduceCtorEq]
  exact hQ _
theorem z_len (h:ZN v st) (a:Int):ao Go.Proofs.Try.prog n_f15 [v,.lit (.int .i64 a)] st (.lit (.int .i64 0)):=by
  obtain ⟨v1,v2,v3,v4,v5,v6,v7⟩:=h.facts
  refine al hmix k_f15 rfl rfl fun Q hQ=>?_
  unfold aFun c_f15
  simp (config:=KF) (disch:=omega) only [bZ,id,↓reduceIte,Nat.reduceEqDiff,reduceCtorEq,v1]
  refine aj (vs:=[v,.lit (.int .i64 a)]) (by simp [v1,cS]) e_f39 (z_at h a) (by simp [v5,db]) ?_
  simp (config:=KF) (disch:=omega) only [bZ,retI,d8,dV,dY,lenI,↓reduceIte,Nat.reduceEqDiff,reduceCtorEq,atA]
  exact hQ _
theorem z_dr (h:ZN v st) (a:Int):ao Go.Proofs.Try.prog n_f17 [v,.lit (.int .i64 a)] st (.lit (.int .i64 0)):=by
  obtain ⟨v1,v2,v3,v4,v5,v6,v7⟩:=h.facts
  refine al hmix k_f17 rfl rfl fun Q hQ=>?_
  unfold aFun c_f17
  simp (config:=KF) (disch:=omega) only [bZ,id,↓reduceIte,Nat.reduceEqDiff,reduceCtorEq,v1]
  refine aj (vs:=[v,.lit (.int .i64 a)]) (by simp [v1,cS]) e_f39 (z_at h a) (by simp [v5,db]) ?_
  simp (config:=KF) (disch:=omega) only [bZ,retI,d8,dY,↓reduceIte,Nat.reduceEqDiff,reduceCtorEq,atA]
  exact hQ _
theorem z_old (h:ZN v st) (a:Int):ao Go.Proofs.Try.prog n_f18 [v,.lit (.int .i64 a)] st (.lit (.int .i64 0)):=by
  obtain ⟨v1,v2,v3,v4,v5,v6,v7⟩:=h.facts
  refine al hmix k_f18 rfl rfl fun Q hQ=>?_
  unfold aFun c_f18
  simp (config:=KF) (disch:=omega) only [bZ,id,↓reduceIte,Nat.reduceEqDiff,reduceCtorEq,v1]
  refine aj (vs:=[v,.lit (.int .i64 a)]) (by simp [v1,cS]) e_f39 (z_at h a) (by simp [v5,db]) ?_
  simp (config:=KF) (disch:=omega) only [bZ,retI,d8,dY,↓reduceIte,Nat.reduceEqDiff,reduceCtorEq,atA]
  exact hQ _
theorem z_close (h:ZN v st) (a:Int):aw Go.Proofs.Try.prog n_f12 [v,.lit (.int .i64 a)] st (fun x st'=>x = .tup [.lit (.slice none 0 0),.lit (.int .i64 1)]∧Kp st st' []):=by
  obtain ⟨v1,v2,v3,v4,v5,v6,v7⟩:=h.facts
  refine aJ hmix k_f12 rfl rfl fun Q hQ=>?_
  unfold aFun c_f12
  simp (config:=KF) (disch:=omega) only [bZ,oG,aa,id,↓reduceIte,Nat.reduceEqDiff,reduceCtorEq,cd,ff,v1,v6]
  have hk:Kp st (st.push (.cells [v])) []:=⟨by simp [St.push],fun _ hi _=>cz hi⟩
  have hg:(st.push (.cells [v])).get st.boxes.length = some [v]:=cd _ _
  generalize st.push (.cells [v]) = st1 at hk hg ⊢
  generalize st.boxes.length = z at hg ⊢
  refine aj (vs:=[v]) (by simp [v1]) e_f26 (fp (h.kp (F:=[]) hk)) (by simp [v5]) ?_
  simp (config:=KF) (disch:=omega) only [bZ,retI,↓reduceIte,Nat.reduceEqDiff]
  exact hQ _ _ ⟨rfl,hk⟩

def actA (w t n m:Int) (nm:ByteArray) (port pol life:Int) (d:AV) (at_:Int):AV:=.agg [.lit (.int .i64 w),.lit (.int .i64 t),.lit (.int .i64 n),.lit (.int .i64 m),.lit (.string nm),.lit (.int .i64 port),.lit (.int .i64 pol),.lit (.int .u64 life),d,.lit (.int .u64 at_)]
def resA (n:Int) (b:Bool) (t:Int) (nm:ByteArray) (port:Int) (w:AV) (a:Nat) (c:Bool) (er:Int) (all:AV) (e:Int):AV:=.agg [.lit (.int .i64 n),.lit (.bool b),.lit (.int .i64 t),.lit (.string nm),.lit (.int .i64 port),w,.lit (.int .u64 (a:Nat)),.lit (.bool c),.lit (.int .i64 er),all,.lit (.int .i64 e)]
theorem z_do (h:ZN v st) (w t n m:Int) (nm:ByteArray) (port pol life:Int) (es:List AV) (at_:Int):aw Go.Proofs.Try.prog n_f14 [v,actA w t n m nm port pol life (.sl false 1 es) at_] st
    (fun x st'=>x = resA 0 false 0 ⟨#[]⟩ 0 (.lit (.slice none 0 0)) 0 false 0 (.lit (.slice none 0 0)) 1∧Kp st st' []):=by
  obtain ⟨v1,v2,v3,v4,v5,v6,v7⟩:=h.facts
  unfold actA
  refine aJ hmix k_f14 rfl rfl fun Q hQ=>?_
  unfold resA at hQ
  unfold aFun c_f14
  simp (config:=KF) (disch:=omega) only [bZ,cN,dz,addA,aa,cE,bw,↓reduceIte,Nat.reduceEqDiff,Nat.reduceAdd,reduceCtorEq,v1,v7]
  refine aq (fun c0=>?_) (fun c0=>?_)
  · simp (config:=KF) (disch:=omega) only [bZ,addA,aa,id,↓reduceIte,Nat.reduceEqDiff,Nat.reduceAdd,Nat.reduceLeDiff,reduceCtorEq,v1]
    refine aj (vs:=[v,adAV nm port,.lit (.int .i64 n),.lit (.int .i64 m),.lit (.int .i64 pol),.lit (.int .u64 life)]) (by simp [v1,cS,bJ,adAV,da,cc]) e_f9 (z_bind h nm port n m pol life) (by simp [v5,db,eN,adAV,aF]) ?_
    simp (config:=KF) (disch:=omega) only [bZ,ak,retI,ar,addA,aa,br,aF,↓reduceIte,Nat.reduceEqDiff,Nat.reduceAdd,Nat.reduceLeDiff,reduceCtorEq]
    exact hQ _ _ ⟨rfl,Kp.refl _ _⟩
  simp (config:=KF) (disch:=omega) only [bZ,↓reduceIte,Nat.reduceEqDiff,reduceCtorEq]
  refine aq (fun c1=>?_) (fun c1=>?_)
  · simp (config:=KF) (disch:=omega) only [bZ,addA,aa,id,bJ,↓reduceIte,Nat.reduceEqDiff,Nat.reduceAdd,Nat.reduceLeDiff,reduceCtorEq,v1]
    refine aj (vs:=[v,.lit (.int .i64 n),adAV nm port,.sl false 1 es]) (by simp [v1,cS,bJ,adAV,da,cc]) e_f36 (z_send h n port nm _ rfl) (by simp [v5,db,eN,adAV,aF]) ?_
    simp (config:=KF) (disch:=omega) only [bZ,ak,retI,ar,addA,aa,br,aF,↓reduceIte,Nat.reduceEqDiff,Nat.reduceAdd,Nat.reduceLeDiff,reduceCtorEq]
    exact hQ _ _ ⟨rfl,Kp.refl _ _⟩
  simp (config:=KF) (disch:=omega) only [bZ,↓reduceIte,Nat.reduceEqDiff,reduceCtorEq]
  refine aq (fun c2=>?_) (fun c2=>?_)
  · simp (config:=KF) (disch:=omega) only [bZ,addA,aa,id,↓reduceIte,Nat.reduceEqDiff,reduceCtorEq,v1]
    refine aj (vs:=[v,.lit (.int .i64 t),.lit (.int .i64 n),.lit (.int .i64 m)]) (by simp [v1,cS,bJ,adAV,da,cc]) e_f34 (z_recv h t n m) (by simp [v5,db,eN,adAV,aF]) ?_
    simp (config:=KF) (disch:=omega) only [bZ,ak,retI,ar,addA,aa,br,dP,aF,↓reduceIte,Nat.reduceEqDiff,Nat.reduceAdd,Nat.reduceLeDiff,reduceCtorEq,rcAV]
    exact hQ _ _ ⟨rfl,Kp.refl _ _⟩
  simp (config:=KF) (disch:=omega) only [bZ,↓reduceIte,Nat.reduceEqDiff,reduceCtorEq]
  refine aq (fun c3=>?_) (fun c3=>?_)
  · simp (config:=KF) (disch:=omega) only [bZ,addA,aa,id,↓reduceIte,Nat.reduceEqDiff,reduceCtorEq,v1]
    refine aj (vs:=[v,.lit (.int .i64 n),.lit (.int .i64 m)]) (by simp [v1,cS,bJ,adAV,da,cc]) e_f31 (z_try h n m) (by simp [v5,db,eN,adAV,aF]) ?_
    simp (config:=KF) (disch:=omega) only [bZ,ak,retI,ar,addA,aa,br,dP,aF,↓reduceIte,Nat.reduceEqDiff,Nat.reduceAdd,Nat.reduceLeDiff,reduceCtorEq,rcAV]
    exact hQ _ _ ⟨rfl,Kp.refl _ _⟩
  simp (config:=KF) (disch:=omega) only [bZ,↓reduceIte,Nat.reduceEqDiff,reduceCtorEq]
  refine aq (fun c4=>?_) (fun c4=>?_)
  · simp (config:=KF) (disch:=omega) only [bZ,addA,aa,id,↓reduceIte,Nat.reduceEqDiff,reduceCtorEq,v1]
    refine aj (vs:=[v,.lit (.int .i64 t)]) (by simp [v1,cS,bJ,adAV,da,cc]) e_f37 (z_cancel h t) (by simp [v5,db,eN,adAV,aF]) ?_
    simp (config:=KF) (disch:=omega) only [bZ,ak,retI,ar,addA,aa,aF,↓reduceIte,Nat.reduceEqDiff,Nat.reduceAdd,Nat.reduceLeDiff,reduceCtorEq]
    exact hQ _ _ ⟨rfl,Kp.refl _ _⟩
  simp (config:=KF) (disch:=omega) only [bZ,↓reduceIte,Nat.reduceEqDiff,reduceCtorEq]
  refine aq (fun c5=>?_) (fun c5=>?_)
  · simp (config:=KF) (disch:=omega) only [bZ,addA,aa,id,↓reduceIte,Nat.reduceEqDiff,reduceCtorEq,v1]
    refine aY (vs:=[v,.lit (.int .i64 n)]) (by simp [v1,cS,bJ,adAV,da,cc]) e_f12 (z_close h n) (by simp [v5,db,eN,adAV,aF]) fun x st1 hr=>?_
    obtain ⟨rfl,hk⟩:=hr
    simp (config:=KF) (disch:=omega) only [bZ,ak,retI,ar,addA,aa,br,aF,↓reduceIte,Nat.reduceEqDiff,Nat.reduceAdd,Nat.reduceLeDiff,reduceCtorEq]
    exact hQ _ _ ⟨rfl,hk⟩
  simp (config:=KF) (disch:=omega) only [bZ,addA,aa,id,↓reduceIte,Nat.reduceEqDiff,reduceCtorEq,v1]
  refine aj (vs:=[v,.lit (.int .u64 at_)]) (by simp [v1,cS,bJ,adAV,da,cc]) e_f38 (z_adv h at_) (by simp [v5,db,eN,adAV,aF]) ?_
  simp (config:=KF) (disch:=omega) only [bZ,ak,retI,ar,addA,aa,br,aF,↓reduceIte,Nat.reduceEqDiff,Nat.reduceAdd,Nat.reduceLeDiff,reduceCtorEq]
  exact hQ _ _ ⟨rfl,Kp.refl _ _⟩
end
end Go.Fx.YtgmeefljgbaanaaFx

