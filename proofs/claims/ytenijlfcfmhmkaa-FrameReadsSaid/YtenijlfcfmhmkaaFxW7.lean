/- What the functions that the statement reaches compute: part 7. -/
import Derived.Test.YtenijlfcfmhmkaaFxW6
namespace Go.Fx.YtenijlfcfmhmkaaFx
open Go Go.Fx
attribute [local irreducible] aC runI ap br

set_option maxRecDepth 100000
set_option maxHeartbeats 4000000

theorem hi_byte {n:Nat} (h:n < 65536):(n:Int) / 256 = ((UInt8.ofNat (n / 256)).toNat:Int):=by simp only [UInt8.toNat_ofNat']; omega
theorem lo_byte (n:Nat):(n:Int) % 256 = ((UInt8.ofNat n).toNat:Int):=by simp only [UInt8.toNat_ofNat']; omega

theorem lh (k:UInt8) (b:List UInt8) (hl:b.length≤1024) (st:St):aw Go.Proofs.Try.prog n_f15 [frAV (k,b)] st (.sl true 1 (BB (encB k b))):=by
  refine gq ?_ (ff _ _) (by simp [nh]) st
  refine aW hmix k_f15 rfl rfl ?_
  unfold aFun c_f15
  have e1:=hi_byte (n:=b.length) (by omega)
  have e2:=lo_byte b.length
  simp (config:=KF) (disch:=omega) only [bZ,gS,kI,o_boxL,bslV,List.reduceReplicate,lenI,addA,d2,af,dA,cD,eM,cP,ai,dg,↓reduceIte,Nat.reduceEqDiff,Nat.reduceAdd,Nat.reduceLT,reduceCtorEq,IntWalk.u8_in,n_quo,n_rem,IntWalk.i64_quo,IntWalk.rem_in,frAV,e1,e2]
  rw [f15_9w]
  refine fW (A:=Nat) (fun a=>b.length - a) (fun a=>⟨[(1,.lptr 1 0),(3,.sl true 1 (BB ([197,k]++twoB b.length++b.take a))),(4,.lit (.int .i64 (a:Nat)))],[(1,[.lit (.int .u8 k.toNat),.sl false 1 (BB b)])]⟩) (fun _=>⟨[]⟩)
    (fun a=>a≤b.length) 0 (by omega) (Sf.le_refl _) rfl ?_
  rintro i h1
  simp (config:=KF) (disch:=omega) only [bZ,lenI,addA,af,cr,List.nil_append,List.cons_append,↓reduceIte,Nat.reduceEqDiff]
  refine aG (fun h=>?_) (fun h=>?_)
  · have hi:i < b.length:=by omega
    have hx:List.take i b++[b.getD i 0] = List.take (i + 1) b:=by rw [List.take_succ_eq_append_getElem hi]; simp [List.getD,hi]
    simp (config:=KF) (disch:=omega) only [bZ,dN,bX,kI,d5,ixSV,bslV,eK,List.reduceReplicate,addA,af,bB,srcA,dA,bQ,eM,ai,List.cons_append,↓reduceIte,Nat.reduceEqDiff,Nat.reduceLT,dz,cB,BB_snoc,List.append_assoc,hx]
    refine ⟨by apply dj; simp [twoB_len]; omega,i + 1,⟨by omega,by omega⟩,Sf.le_refl _⟩
  · simp (config:=KF) (disch:=omega) only [bZ,fd,aV,ar,bT,↓reduceIte,Nat.reduceEqDiff]
    have e:i = b.length:=by omega
    simp only [e,List.take_length]
    have hout:197::k::(twoB b.length++b) = 197::ef k b:=by simp [ef]
    have henc:encB k b = (197::ef k b)++twoB (sumB 1 ((197::ef k b).drop 1)):=by simp [encB]
    rw [hout,henc]
    have hpl:(197::ef k b).length = b.length + 4:=by simp [inner_len]
    generalize 197::ef k b = p at *
    rw [f15_24w]
    refine fW (A:=Nat×Nat) (fun a=>p.length - a.1) (fun a=>⟨[(3,.sl true 1 (BB p)),(5,.lit (.int .i64 (a.2:Nat))),(6,.lit (.int .i64 (a.1:Nat)))],[]⟩) (fun _=>⟨[]⟩)
      (fun a=>a.1≤p.length∧a.2 < 65521∧sumB a.2 (p.drop a.1) = sumB 1 (p.drop 1)) (1,1) ⟨by simp only; omega,by simp,rfl⟩ ⟨ij _,trivial⟩ rfl ?_
    rintro ⟨i,s⟩ ⟨h1,h2,h3⟩
    simp only at h1 h2 h3
    have hx:=(p.getD i 0).toNat_lt
    simp (config:=KF) (disch:=omega) only [bZ,lenI,cr,↓reduceIte,Nat.reduceEqDiff]
    refine aG (fun h=>?_) (fun h=>?_)
    · simp (config:=KF) (disch:=omega) only [bZ,dN,gS,bX,ixSV,d2,af,bQ,n_mul,ai,↓reduceIte,Nat.reduceEqDiff,dz,n_rem,IntWalk.rem_in,cB]
      have hi:i < p.length:=by omega
      refine ⟨(i + 1,(31 * s + (p.getD i 0).toNat) % 65521),⟨⟨by simp only; omega,Nat.mod_lt _ (by omega),?_⟩,by simp only; omega⟩,?_,trivial⟩
      · rw [← h3,List.drop_eq_getElem_cons hi]
        simp [sumB,List.getD,hi]
      · simp only
        rw [Nat.mul_comm 31 s]
        exact ij _
    · simp (config:=KF) (disch:=omega) only [bZ,fd,aV,ar,bT,retI,gS,kI,d5,bslV,eK,List.reduceReplicate,d2,bB,srcA,dA,eM,ai,mY,↓reduceIte,Nat.reduceEqDiff,Nat.reduceAdd,Nat.reduceLT,dj,IntWalk.u8_in,n_quo,n_rem,IntWalk.i64_quo,IntWalk.rem_in]
      have:i = p.length:=by omega
      subst this
      simp only [List.drop_length,sumB] at h3
      rw [← h3,hi_byte (by omega),lo_byte,← m5]
      exact .refl _
end Go.Fx.YtenijlfcfmhmkaaFx

