/- What the functions that the statement reaches compute: part 15. -/
import Derived.Test.YtenijlfcfmhmkaaFxW14
namespace Go.Fx.YtenijlfcfmhmkaaFx
open Go Go.Fx
attribute [local irreducible] aC runI ap br

set_option maxRecDepth 100000
set_option maxHeartbeats 8000000

/-- The reader is copied; the first one goes on by itself. -/
theorem reads_copy {l:List Ac} {i r:Nat} {k:Int} {d:List UInt8} {w:AV} {L:List UInt8} {e:Nat} {st:St} (hi:i < l.length) (ha:l[i] = (k,d)) (hk0:k≠0) (hk1:k≠1) (hw:Own1 w L) (hr:Rd st r L e) (hL:L.length≤60000) (he:e < 1000) {K:Exit→Sf→St→Prop}
    (hK:∀ r' st',Rd st' r' L e→K .normal (rSf2 l r' w e i) st') :
    aC Go.Proofs.Try.prog id false f12_33 (rSf l r w e i) st (seqQ (aC Go.Proofs.Try.prog id false f12_102) K):=by
  unfold rSf
  have e1:(l.map acAV).getD i .any = acAV (k,d):=by simp [List.getD,hi,ha]
  have hlt:=hr.lt
  have hne0:(k = 0) = False:=by simp [hk0]
  have hne1:(k = 1) = False:=by simp [hk1]
  have hend:∀ X r' st',(X = []∨X = [(80,AV.lit (.bool false))])→Rd st' r' L e→aC Go.Proofs.Try.prog id false f12_102 ⟨(0,cN l)::(3,.ptr r' 0)::(4,w)::(5,.lit (.int .i64 (e:Nat)))::(6,.lit (.int .i64 (i:Nat)))::X,[]⟩ st' K :=
    fun X r' st' hX h2=>f7 hX hw h2 (hK r' st' h2)
  clear hK
  have hw2:w.dis.noL = true:=by rcases hw with rfl | ⟨rfl,_⟩ <;> rfl
  have hcp:=copy_any hr (by omega)
  rcases hw with rfl | ⟨rfl,h00⟩
  all_goals
    simp (config:=KF) (disch:=omega) only [bZ,bX,bj,ixSV,addA,af,iE,id,↓reduceIte,Nat.reduceEqDiff,reduceCtorEq,f12_33e,cN,acAV,e1,hne0,hne1]
    refine eA rfl e_f1043 hcp rfl fun v s1 hv=>?_
    obtain ⟨rfl,hr1,hlen,hold⟩:=hv
    have hr0:=hr.of (st':=s1) (hold r hlt)
    simp (config:=KF) (disch:=omega) only [bZ,kI,bj,bslV,bf,aP,aA,List.reduceReplicate,dA,id,eM,ai,↓reduceIte,Nat.reduceEqDiff,Nat.reduceAdd,Nat.reduceLT,reduceCtorEq]
    refine eA (vs:=[.ptr r 0,.sl false 1 (BB [1,2,3])]) rfl e_f38 (feed_rd hr0 (Src.sl s1 r [1,2,3]) (by simp only [List.length_cons,List.length_nil]; omega) he) rfl fun x s2 hx=>?_
    obtain ⟨rfl,hr2,hb2⟩:=hx
    have hrn:Rd s2 st.boxes.length L e:=hb2.rd hr1 (by omega)
    simp (config:=KF) (disch:=omega) only [bZ,bj,id,↓reduceIte,Nat.reduceEqDiff,reduceCtorEq]
    refine eA rfl e_f40 (next_any hr2 (by split <;> first | omega | (simp; omega)) he) rfl fun x s3 hx=>?_
    obtain ⟨hx,hr3,hb3⟩:=hx
    have hrm:Rd s3 st.boxes.length L e:=hb3.rd hrn (by omega)
    simp (config:=KF) (disch:=omega) only [bZ,↓reduceIte,Nat.reduceEqDiff,reduceCtorEq]
    exact hend _ _ _ (by first | exact .inl rfl | exact .inr rfl) hrm
end Go.Fx.YtenijlfcfmhmkaaFx

