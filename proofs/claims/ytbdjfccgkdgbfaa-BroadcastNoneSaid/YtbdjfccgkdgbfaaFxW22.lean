/- What the functions that the statement reaches compute: part 22. -/
import Derived.Test.YtbdjfccgkdgbfaaFxW21
namespace Go.Fx.YtbdjfccgkdgbfaaFx
open Go Go.Fx
attribute [local irreducible] aC runI aE aY

set_option maxRecDepth 100000
set_option maxHeartbeats 4000000

/-! Nil and zero hubs. -/
def HZ (v:AV) (st:St):Prop:=v = .lit (.pointer none)∨∃ z,v = .ptr z 0∧st.get z = some (List.replicate 80 (.lit (.pointer none))++[.lit (.map none)])
section
variable {st:St} {v:AV}
theorem fj (h:HZ v st):ao Go.Proofs.Try.prog n_f24 [v] st (.lit (.bool true)):=by
  refine al hmix k_f24 rfl rfl fun Q hQ=>?_
  unfold aFun c_f24
  rcases h with rfl | ⟨z,rfl,hg⟩
  · simp (config:=KF) (disch:=omega) only [bZ,retI,bk,AI.dst,aS,bw,cU,aW,aH,↓reduceIte,Nat.reduceEqDiff,reduceCtorEq]
    exact hQ _
  · have hd:(List.replicate 80 (AV.lit (.pointer none))++[AV.lit (.map none)]).drop 80 = [AV.lit (.map none)]:=rfl
    simp (config:=KF) (disch:=omega) only [bZ,retI,AI.dst,aj,cU,aW,aH,List.reduceReplicate,addA,ae,List.nil_append,List.cons_append,↓reduceIte,Nat.reduceEqDiff,reduceCtorEq,hg]
    exact hQ _
theorem HZ.facts (h:HZ v st):v.dis = v∧v.own1 = v∧v.own2 = v∧v.solid1 = true∧v.noL = true∧v.cells = [v]∧∀ s,kill s v = v:=by
  rcases h with rfl | ⟨z,rfl,hg⟩ <;> exact ⟨rfl,rfl,rfl,rfl,rfl,rfl,fun _=>rfl⟩
theorem z_sub (h:HZ v st) (a b c:Int):ao Go.Proofs.Try.prog n_f9 [v,.lit (.int .i64 a),.lit (.int .i64 b),.lit (.int .i64 c)] st (.tup [.lit (.int .i64 0),.lit (.int .i64 1)]):=by
  obtain ⟨v1,v2,v3,v4,v5,v6,v7⟩:=h.facts
  refine al hmix k_f9 rfl rfl fun Q hQ=>?_
  unfold aFun c_f9
  simp (config:=KF) (disch:=omega) only [bZ,id,↓reduceIte,Nat.reduceEqDiff,Nat.reduceAdd,reduceCtorEq,v1]
  refine ah (vs:=[v]) (by simp [v1]) e_f24 (fj h) (by simp [v5]) ?_
  simp (config:=KF) (disch:=omega) only [bZ,retI,↓reduceIte,Nat.reduceEqDiff,reduceCtorEq]
  exact hQ _
theorem z_pub (h:HZ v st) (a:Int) (d:AV) (hd:d.dis = d):ao Go.Proofs.Try.prog n_f28 [v,.lit (.int .i64 a),d] st (.lit (.int .i64 1)):=by
  obtain ⟨v1,v2,v3,v4,v5,v6,v7⟩:=h.facts
  refine al hmix k_f28 rfl rfl fun Q hQ=>?_
  unfold aFun c_f28
  simp (config:=KF) (disch:=omega) only [bZ,id,↓reduceIte,Nat.reduceEqDiff,Nat.reduceAdd,reduceCtorEq,v1,hd]
  refine ah (vs:=[v]) (by simp [v1]) e_f24 (fj h) (by simp [v5]) ?_
  simp (config:=KF) (disch:=omega) only [bZ,aF,retI,↓reduceIte,Nat.reduceEqDiff,reduceCtorEq]
  exact hQ _
theorem z_send (h:HZ v st) (a b:Int) (d:AV) (hd:d.dis = d):ao Go.Proofs.Try.prog n_f29 [v,.lit (.int .i64 a),.lit (.int .i64 b),d] st (.tup [.lit (.bool false),.lit (.int .i64 1)]):=by
  obtain ⟨v1,v2,v3,v4,v5,v6,v7⟩:=h.facts
  refine al hmix k_f29 rfl rfl fun Q hQ=>?_
  unfold aFun c_f29
  simp (config:=KF) (disch:=omega) only [bZ,id,↓reduceIte,Nat.reduceEqDiff,Nat.reduceAdd,reduceCtorEq,v1,hd]
  refine ah (vs:=[v]) (by simp [v1]) e_f24 (fj h) (by simp [v5]) ?_
  simp (config:=KF) (disch:=omega) only [bZ,aF,retI,↓reduceIte,Nat.reduceEqDiff,reduceCtorEq]
  exact hQ _
theorem z_read (h:HZ v st) (a:Int):ao Go.Proofs.Try.prog n_f33 [v,.lit (.int .i64 a)] st (.tup [.lit (.slice none 0 0),.lit (.slice none 0 0),.lit (.int .i64 1)]):=by
  obtain ⟨v1,v2,v3,v4,v5,v6,v7⟩:=h.facts
  refine al hmix k_f33 rfl rfl fun Q hQ=>?_
  unfold aFun c_f33
  simp (config:=KF) (disch:=omega) only [bZ,id,↓reduceIte,Nat.reduceEqDiff,reduceCtorEq,v1]
  refine ah (vs:=[v]) (by simp [v1]) e_f24 (fj h) (by simp [v5]) ?_
  simp (config:=KF) (disch:=omega) only [bZ,retI,↓reduceIte,Nat.reduceEqDiff,reduceCtorEq]
  exact hQ _
theorem z_leave (h:HZ v st) (a:Int):ao Go.Proofs.Try.prog n_f11 [v,.lit (.int .i64 a)] st (.tup [.lit (.slice none 0 0),.lit (.int .i64 1)]):=by
  obtain ⟨v1,v2,v3,v4,v5,v6,v7⟩:=h.facts
  refine al hmix k_f11 rfl rfl fun Q hQ=>?_
  unfold aFun c_f11
  simp (config:=KF) (disch:=omega) only [bZ,id,↓reduceIte,Nat.reduceEqDiff,reduceCtorEq,v1]
  refine ah (vs:=[v]) (by simp [v1]) e_f24 (fj h) (by simp [v5]) ?_
  simp (config:=KF) (disch:=omega) only [bZ,retI,↓reduceIte,Nat.reduceEqDiff,reduceCtorEq]
  exact hQ _
theorem z_cancel (h:HZ v st) (a:Int):ao Go.Proofs.Try.prog n_f34 [v,.lit (.int .i64 a)] st (.tup [.lit (.slice none 0 0),.lit (.int .i64 1)]):=by
  obtain ⟨v1,v2,v3,v4,v5,v6,v7⟩:=h.facts
  refine al hmix k_f34 rfl rfl fun Q hQ=>?_
  unfold aFun c_f34
  simp (config:=KF) (disch:=omega) only [bZ,id,↓reduceIte,Nat.reduceEqDiff,reduceCtorEq,v1]
  refine ah (vs:=[v]) (by simp [v1]) e_f24 (fj h) (by simp [v5]) ?_
  simp (config:=KF) (disch:=omega) only [bZ,retI,↓reduceIte,Nat.reduceEqDiff,reduceCtorEq]
  exact hQ _
theorem z_at (h:HZ v st) (a:Int):ao Go.Proofs.Try.prog n_f31 [v,.lit (.int .i64 a)] st (.lit (.pointer none)):=by
  obtain ⟨v1,v2,v3,v4,v5,v6,v7⟩:=h.facts
  refine al hmix k_f31 rfl rfl fun Q hQ=>?_
  unfold aFun c_f31
  simp (config:=KF) (disch:=omega) only [bZ,id,↓reduceIte,Nat.reduceEqDiff,reduceCtorEq,v1]
  refine ah (vs:=[v]) (by simp [v1]) e_f24 (fj h) (by simp [v5]) ?_
  simp (config:=KF) (disch:=omega) only [bZ,retI,bk,AI.dst,aS,bw,↓reduceIte,Nat.reduceEqDiff,reduceCtorEq]
  exact hQ _
theorem z_len (h:HZ v st) (a:Int):ao Go.Proofs.Try.prog n_f15 [v,.lit (.int .i64 a)] st (.lit (.int .i64 0)):=by
  obtain ⟨v1,v2,v3,v4,v5,v6,v7⟩:=h.facts
  refine al hmix k_f15 rfl rfl fun Q hQ=>?_
  unfold aFun c_f15
  simp (config:=KF) (disch:=omega) only [bZ,id,↓reduceIte,Nat.reduceEqDiff,reduceCtorEq,v1]
  refine ah (vs:=[v,.lit (.int .i64 a)]) (by simp [v1,cm]) e_f31 (z_at h a) (by simp [v5,cD]) ?_
  simp (config:=KF) (disch:=omega) only [bZ,retI,dZ,aW,aH,↓reduceIte,Nat.reduceEqDiff,reduceCtorEq]
  exact hQ _
theorem z_lost (h:HZ v st) (a:Int):ao Go.Proofs.Try.prog n_f14 [v,.lit (.int .i64 a)] st (.lit (.int .i64 0)):=by
  obtain ⟨v1,v2,v3,v4,v5,v6,v7⟩:=h.facts
  refine al hmix k_f14 rfl rfl fun Q hQ=>?_
  unfold aFun c_f14
  simp (config:=KF) (disch:=omega) only [bZ,id,↓reduceIte,Nat.reduceEqDiff,reduceCtorEq,v1]
  refine ah (vs:=[v,.lit (.int .i64 a)]) (by simp [v1,cm]) e_f31 (z_at h a) (by simp [v5,cD]) ?_
  simp (config:=KF) (disch:=omega) only [bZ,retI,dZ,aW,aH,↓reduceIte,Nat.reduceEqDiff,reduceCtorEq]
  exact hQ _
theorem nW (h:HZ v st) (a:Int):ao Go.Proofs.Try.prog n_f21 [v,.lit (.int .i64 a)] st (.lit (.int .i64 0)):=by
  obtain ⟨v1,v2,v3,v4,v5,v6,v7⟩:=h.facts
  refine al hmix k_f21 rfl rfl fun Q hQ=>?_
  unfold aFun c_f21
  simp (config:=KF) (disch:=omega) only [bZ,id,↓reduceIte,Nat.reduceEqDiff,reduceCtorEq,v1]
  refine ah (vs:=[v]) (by simp [v1]) e_f24 (fj h) (by simp [v5]) ?_
  simp (config:=KF) (disch:=omega) only [bZ,retI,bk,AI.dst,aS,bw,↓reduceIte,Nat.reduceEqDiff,reduceCtorEq]
  exact hQ _
theorem z_subs (h:HZ v st) (a:Int):ao Go.Proofs.Try.prog n_f22 [v,.lit (.int .i64 a)] st (.lit (.slice none 0 0)):=by
  obtain ⟨v1,v2,v3,v4,v5,v6,v7⟩:=h.facts
  refine al hmix k_f22 rfl rfl fun Q hQ=>?_
  unfold aFun c_f22
  simp (config:=KF) (disch:=omega) only [bZ,id,↓reduceIte,Nat.reduceEqDiff,reduceCtorEq,v1]
  refine ah (vs:=[v]) (by simp [v1]) e_f24 (fj h) (by simp [v5]) ?_
  simp (config:=KF) (disch:=omega) only [bZ,retI,↓reduceIte,Nat.reduceEqDiff,reduceCtorEq]
  exact hQ _
theorem z_copy (h:HZ v st):ao Go.Proofs.Try.prog n_f19 [v] st (.lit (.pointer none)):=by
  obtain ⟨v1,v2,v3,v4,v5,v6,v7⟩:=h.facts
  refine al hmix k_f19 rfl rfl fun Q hQ=>?_
  unfold aFun c_f19
  simp (config:=KF) (disch:=omega) only [bZ,id,↓reduceIte,reduceCtorEq,v1]
  refine ah (vs:=[v]) (by simp [v1]) e_f24 (fj h) (by simp [v5]) ?_
  simp (config:=KF) (disch:=omega) only [bZ,retI,↓reduceIte,Nat.reduceEqDiff,reduceCtorEq]
  exact hQ _

def actA (w t p n o:Int) (d:AV):AV:=.agg [.lit (.int .i64 w),.lit (.int .i64 t),.lit (.int .i64 p),.lit (.int .i64 n),.lit (.int .i64 o),d]
def resA (n:Int) (b:Bool) (d its:AV) (e:Int):AV:=.agg [.lit (.int .i64 n),.lit (.bool b),d,its,.lit (.int .i64 e)]
theorem z_do (h:HZ v st) (w t p n o:Int) (es:List AV):ao Go.Proofs.Try.prog n_f13 [v,actA w t p n o (.sl false 1 es)] st (resA 0 false (.lit (.slice none 0 0)) (.lit (.slice none 0 0)) 1):=by
  obtain ⟨v1,v2,v3,v4,v5,v6,v7⟩:=h.facts
  unfold actA
  refine al hmix k_f13 rfl rfl fun Q hQ=>?_
  unfold resA at hQ
  unfold aFun c_f13
  simp (config:=KF) (disch:=omega) only [bZ,iJ,o_boxL,addA,ae,dH,g6,dS,fD,dM,↓reduceIte,Nat.reduceEqDiff,Nat.reduceAdd,reduceCtorEq,v1,v7]
  refine bQ (fun c=>?_) (fun c=>?_)
  · simp (config:=KF) (disch:=omega) only [bZ,addA,ae,id,↓reduceIte,Nat.reduceEqDiff,reduceCtorEq,v1]
    refine ah (vs:=[v,.lit (.int .i64 p),.lit (.int .i64 n),.lit (.int .i64 o)]) (by simp [v1,cm,bj]) e_f9 (z_sub h p n o) (by simp [v5,cD,fZ]) ?_
    simp (config:=KF) (disch:=omega) only [bZ,retI,cS,extV,aI,addA,ae,aM,aX,ek,↓reduceIte,Nat.reduceEqDiff,Nat.reduceAdd,Nat.reduceLeDiff,reduceCtorEq]
    exact hQ _
  · simp (config:=KF) (disch:=omega) only [bZ,↓reduceIte,Nat.reduceEqDiff,reduceCtorEq]
    refine bQ (fun c=>?_) (fun c=>?_)
    · simp (config:=KF) (disch:=omega) only [bZ,addA,ae,id,bj,↓reduceIte,Nat.reduceEqDiff,reduceCtorEq,v1]
      refine ah (vs:=[v,.lit (.int .i64 p),.sl false 1 es]) (by simp [v1,cm,bj]) e_f28 (z_pub h p _ rfl) (by simp [v5,cD,fZ]) ?_
      simp (config:=KF) (disch:=omega) only [bZ,retI,aI,addA,ae,aM,ek,↓reduceIte,Nat.reduceEqDiff,Nat.reduceAdd,Nat.reduceLeDiff,reduceCtorEq]
      exact hQ _
    · simp (config:=KF) (disch:=omega) only [bZ,↓reduceIte,Nat.reduceEqDiff,reduceCtorEq]
      refine bQ (fun c=>?_) (fun c=>?_)
      · simp (config:=KF) (disch:=omega) only [bZ,addA,ae,id,bj,↓reduceIte,Nat.reduceEqDiff,reduceCtorEq,v1]
        refine ah (vs:=[v,.lit (.int .i64 t),.lit (.int .i64 p),.sl false 1 es]) (by simp [v1,cm,bj]) e_f29 (z_send h t p _ rfl) (by simp [v5,cD,fZ]) ?_
        simp (config:=KF) (disch:=omega) only [bZ,retI,cS,extV,aI,addA,ae,aM,aX,ek,↓reduceIte,Nat.reduceEqDiff,Nat.reduceAdd,Nat.reduceLeDiff,reduceCtorEq]
        exact hQ _
      · simp (config:=KF) (disch:=omega) only [bZ,↓reduceIte,Nat.reduceEqDiff,reduceCtorEq]
        refine bQ (fun c=>?_) (fun c=>?_)
        · simp (config:=KF) (disch:=omega) only [bZ,addA,ae,id,↓reduceIte,Nat.reduceEqDiff,reduceCtorEq,v1]
          refine ah (vs:=[v,.lit (.int .i64 n)]) (by simp [v1,cm,bj]) e_f33 (z_read h n) (by simp [v5,cD,fZ]) ?_
          simp (config:=KF) (disch:=omega) only [bZ,retI,cS,extV,aI,addA,ae,aM,aX,ek,↓reduceIte,Nat.reduceEqDiff,Nat.reduceAdd,Nat.reduceLeDiff,reduceCtorEq]
          exact hQ _
        · simp (config:=KF) (disch:=omega) only [bZ,↓reduceIte,Nat.reduceEqDiff,reduceCtorEq]
          refine bQ (fun c=>?_) (fun c=>?_)
          · simp (config:=KF) (disch:=omega) only [bZ,addA,ae,id,↓reduceIte,Nat.reduceEqDiff,reduceCtorEq,v1]
            refine ah (vs:=[v,.lit (.int .i64 n)]) (by simp [v1,cm,bj]) e_f11 (z_leave h n) (by simp [v5,cD,fZ]) ?_
            simp (config:=KF) (disch:=omega) only [bZ,retI,cS,extV,aI,addA,ae,aM,aX,ek,↓reduceIte,Nat.reduceEqDiff,Nat.reduceAdd,Nat.reduceLeDiff,reduceCtorEq]
            exact hQ _
          · simp (config:=KF) (disch:=omega) only [bZ,addA,ae,id,↓reduceIte,Nat.reduceEqDiff,reduceCtorEq,v1]
            refine ah (vs:=[v,.lit (.int .i64 t)]) (by simp [v1,cm,bj]) e_f34 (z_cancel h t) (by simp [v5,cD,fZ]) ?_
            simp (config:=KF) (disch:=omega) only [bZ,retI,cS,extV,aI,addA,ae,aM,aX,ek,↓reduceIte,Nat.reduceEqDiff,Nat.reduceAdd,Nat.reduceLeDiff,reduceCtorEq]
            exact hQ _
end
end Go.Fx.YtbdjfccgkdgbfaaFx

