/- What the functions that the statement reaches compute: part 33. -/
import Derived.Test.YtbomoaajkinfpaaFxW32
namespace Go.Fx.YtbomoaajkinfpaaFx
open Go Go.Fx
attribute [local irreducible] aC runI aD aL

set_option maxRecDepth 100000
set_option maxHeartbeats 4000000

def a7s1 (l:List A7):List AV:=l.map fun a=>a7AV a (.sl false 3 (a.2.2.2.1.map csAV))
theorem iG (l:List A7):(a7s1 l).length = l.length:=by simp [a7s1]
theorem a7s1_get {l:List A7} {i:Nat} (h:i < l.length):(a7s1 l).getD i .any = .agg [.lit (.int .i64 l[i].1),.lit (.int .i64 l[i].2.1),.lit (.int .i64 l[i].2.2.1),.sl false 3 (l[i].2.2.2.1.map csAV),.lit (.bool l[i].2.2.2.2)]:=by
  rw [List.getD_eq_getElem?_getD,List.getElem?_eq_getElem (by rw [iG]; exact h)]
  simp [a7s1,a7AV]

section
variable {st:St} {s mid n c q0 m0 q1 m1 wid:Nat} {cv ov bv:AV} {L:List CL} {R:RS} {P:ChP} {K:Exit→Sf→St→Prop} {l:List A7}
theorem kc (h:SelR st s mid cv ov L R n) (hc:ChIs st c P q0 m0 q1 m1 wid bv) (ho:One R P) {e0 e1 e2 e3 er i:Int} {dn:Bool} {f:List It4} (hf:f.length≤1000000) {ex:List (Nat×AV)} (hex:ex = []∨ex = [(200,.lit (.bool false))])
    (hK:K .normal ⟨[(1,.sl false 5 (a7s1 l)),(5,.ptr s 0),(7,.ptr c 0),(9,.lit (.int .i64 i)),(227,.lit (.bool false))],[]⟩ st) :
    aC Go.Proofs.Try.prog id false f3_71 ⟨[(1,.sl false 5 (a7s1 l)),(5,.ptr s 0),(7,.ptr c 0),(9,.lit (.int .i64 i)),(11,.lptr 11 0),(12,.lptr 12 0)]++ex,[(11,[.lit (.int .i64 e0),.lit (.int .i64 e1),.lit (.int .i64 e2),.lit (.int .i64 e3),.lit (.bool dn),it4s f,.lit (.int .i64 er)]),(12,[.lit (.int .i64 0),.lit (.int .i64 e1),.lit (.int .i64 e2),.lit (.int .i64 e3),.lit (.bool dn),it4s f,.lit (.int .i64 er)])]⟩ st K:=by
  have hat:=ho.at
  obtain ⟨z1,z2,z3,z4,z5,z6,z7⟩:=aP f
  have hq:=fY ((0,e1,e2,e3),dn,f,er) ((0,e1,e2,e3),dn,f,er) hf hf st
  rw [decide_eq_true rfl] at hq
  obtain ⟨f1,f2⟩:=jp ((0,e1,e2,e3),dn,f,er)
  have hl1:=slen_pure h 0
  have hl2:=gn hc
  have hc1:=nR h 0
  have hc2:=d9 hc
  rw [hat] at hl1 hc1
  simp only [rrA] at hq f1 f2
  rcases hex with rfl | rfl
  all_goals
    simp (config:=KF) (disch:=omega) only [bZ,am,addA,aa,iu,iv,id,List.append_nil,List.nil_append,List.cons_append,↓reduceIte,Nat.reduceEqDiff,Nat.reduceAdd,Nat.reduceLeDiff,f3_71e,z2]
    refine al (by simp only [List.map_cons,List.map_nil,f1]; rfl) e_f18 hq (by simp only [List.all_cons,List.all_nil,f2]; rfl) ?_
    simp (config:=KF) (disch:=omega) only [bZ,AI.dst,o_un,unA,id,↓reduceIte,Nat.reduceEqDiff]
    refine al rfl e_f19 hl1 rfl ?_
    simp (config:=KF) (disch:=omega) only [bZ,AI.dst,id,↓reduceIte,Nat.reduceEqDiff]
    refine al rfl e_f20 hl2 rfl ?_
    simp (config:=KF) (disch:=omega) only [bZ,AI.dst,id,↓reduceIte,Nat.reduceEqDiff,not_true_eq_false]
    refine al rfl e_f21 hc1 rfl ?_
    simp (config:=KF) (disch:=omega) only [bZ,AI.dst,id,↓reduceIte,Nat.reduceEqDiff]
    refine al rfl e_f22 hc2 rfl ?_
    simp (config:=KF) (disch:=omega) only [bZ,AI.dst,b_neq,↓reduceIte,Nat.reduceEqDiff,beq_self_eq_true]
    exact hK

theorem kd (h:SelR st s mid cv ov L R n) (hc:ChIs st c P q0 m0 q1 m1 wid bv) (ho:One R P) {X Y:RR} {w t p i:Int} {z3:AV} {wt:Bool} (hX:X.2.2.1.length≤1000000) (hXY:fixX X = Y) (hw:w≠0→X.2.1 = false)
    (hK:K .normal ⟨[(1,.sl false 5 (a7s1 l)),(5,.ptr s 0),(7,.ptr c 0),(9,.lit (.int .i64 i)),(227,.lit (.bool false))],[]⟩ st) :
    aC Go.Proofs.Try.prog id false f3_66 ⟨[(1,.sl false 5 (a7s1 l)),(5,.ptr s 0),(7,.ptr c 0),(9,.lit (.int .i64 i)),(10,.lptr 10 0),(11,.lptr 11 0),(12,.lptr 12 0)],[(10,[.lit (.int .i64 w),.lit (.int .i64 t),.lit (.int .i64 p),z3,.lit (.bool wt)]),(11,[.lit (.int .i64 X.1.1),.lit (.int .i64 X.1.2.1),.lit (.int .i64 X.1.2.2.1),.lit (.int .i64 X.1.2.2.2),.lit (.bool X.2.1),it4s X.2.2.1,.lit (.int .i64 X.2.2.2)]),(12,[.lit (.int .i64 Y.1.1),.lit (.int .i64 Y.1.2.1),.lit (.int .i64 Y.1.2.2.1),.lit (.int .i64 Y.1.2.2.2),.lit (.bool Y.2.1),it4s Y.2.2.1,.lit (.int .i64 Y.2.2.2)])]⟩ st K:=by
  obtain ⟨⟨e0,e1,e2,e3⟩,dn,f,er⟩:=X
  subst hXY
  simp only at hX hw
  obtain ⟨z1,z2,z3,z4,z5,z6,z7⟩:=aP f
  have hf0:fixX ((e0,e1,e2,e3),false,f,er) = ((0,e1,e2,e3),false,f,er):=by simp [fixX]
  by_cases hw0:w = 0
  · subst hw0
    cases dn with
    | false =>
      rw [hf0]
      simp (config:=KF) (disch:=omega) only [bZ,AI.dst,addA,aa,↓reduceIte,Nat.reduceEqDiff,f3_66e]
      exact kc h hc ho hX (.inr rfl) hK
    | true =>
      by_cases he:e3 = 0
      · subst he
        have hf1:fixX ((e0,e1,e2,0),true,f,er) = ((0,e1,e2,0),true,f,er):=by simp [fixX]
        rw [hf1]
        simp (config:=KF) (disch:=omega) only [bZ,AI.dst,addA,aa,↓reduceIte,Nat.reduceEqDiff,not_true_eq_false,f3_66e]
        exact kc h hc ho hX (.inr rfl) hK
      · have hf1:fixX ((e0,e1,e2,e3),true,f,er) = ((0,e1,e2,0),false,f,e3):=by simp [fixX,he]
        rw [hf1]
        simp (config:=KF) (disch:=omega) only [bZ,AI.dst,am,addA,aa,iu,iv,↓reduceIte,Nat.reduceEqDiff,Nat.reduceAdd,Nat.reduceLeDiff,aK,f3_66e]
        exact kc h hc ho hX (.inl rfl) hK
  · have:=hw hw0
    subst this
    rw [hf0]
    simp (config:=KF) (disch:=omega) only [bZ,AI.dst,addA,aa,↓reduceIte,Nat.reduceEqDiff,bo,f3_66e]
    exact kc h hc ho hX (.inr rfl) hK
end
end Go.Fx.YtbomoaajkinfpaaFx

