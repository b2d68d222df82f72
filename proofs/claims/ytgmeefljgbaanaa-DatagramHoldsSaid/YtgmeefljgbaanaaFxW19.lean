/- What the functions that the statement reaches compute: part 19. -/
import Derived.Test.YtgmeefljgbaanaaFxW18
namespace Go.Fx.YtgmeefljgbaanaaFx
open Go Go.Fx
attribute [local irreducible] aC runI aF a9

set_option maxRecDepth 100000
set_option maxHeartbeats 4000000

/-! A new net. -/
theorem py (st:St) (now:Nat) (hn:now < 18446744073709551615):ao Go.Proofs.Try.prog n_f8 [.lit (.int .u64 (now:Nat))] st
    (fun v st'=>∃ n sid wid F,v = .tup [.ptr n 0,.lit (.int .i64 0)]∧NetR st' n sid wid 0 ⟨now,[],[]⟩ F∧Kp st st' []∧∀ x ∈ F,st.boxes.length≤x∧x < st'.boxes.length):=by
  refine aA hmix k_f8 rfl rfl fun Q hQ=>?_
  unfold aFun c_f8
  have hne:¬ ((now:Int) = 18446744073709551615):=by omega
  simp (config:=KF) (disch:=omega) only [bZ,retI,d5,p8,o_mkmap,bstV,aP,nf,la,gx,gy,↓reduceIte,Nat.reduceEqDiff,Nat.reduceAdd,Nat.reduceLeDiff,reduceCtorEq,aI,hne]
  obtain ⟨n,hnn⟩:∃ n,n = st.boxes.length:=⟨_,rfl⟩
  obtain ⟨s,hs⟩:∃ s,s = ((st.push (.mp [] [] 0)).push (.mp [] [] 0)).push (.cells [.lit (.int .u64 (now:Nat)),.map st.boxes.length,.map (st.boxes.length + 1)]):=⟨_,rfl⟩
  have hl:s.boxes.length = n + 3:=by rw [hs,hnn]; simp [aI]
  have hg:s.get (n + 2) = some [.lit (.int .u64 (now:Nat)),.map n,.map (n + 1)]:=by
    have:=bL ((st.push (.mp [] [] 0)).push (.mp [] [] 0)) [.lit (.int .u64 (now:Nat)),.map st.boxes.length,.map (st.boxes.length + 1)]
    rw [aI,aI,← hs,← hnn] at this
    exact this
  have h1:MapIs s n .i64 slAV []:=by
    have:=(((MapIs.new st .i64 slAV).push (.mp [] [] 0)).push (.cells [.lit (.int .u64 (now:Nat)),.map st.boxes.length,.map (st.boxes.length + 1)]))
    rw [← hs,← hnn] at this; exact this
  have h2:MapIs s (n + 1) .i64 weAV []:=by
    have:=((MapIs.new (st.push (.mp [] [] 0)) .i64 weAV).push (.cells [.lit (.int .u64 (now:Nat)),.map st.boxes.length,.map (st.boxes.length + 1)]))
    rw [aI,← hs,← hnn] at this; exact this
  have hN:NetIs s (n + 2) n (n + 1) now [] []:=⟨hg,h1,h2,fun i x h=>(by cases h),by omega,fun _=>-1,fun i x h=>(by cases h),rfl,rfl,rfl⟩
  have hids:cS (n + 2) n (n + 1) [] = [n + 2,n,n + 1]:=rfl
  have hk:Kp st s []:=⟨by omega,fun i hi _=>by rw [hs,bE (by simp [aI]; omega),bE (by simp [aI]; omega),bE hi]⟩
  refine hQ _ _ ⟨n + 2,n,n + 1,[n + 2,n,n + 1],?_,⟨⟨[],[],[],?_,⟨fun _=>rfl,rfl,List.Pairwise.nil,fun _ h=>(by cases h)⟩,⟨fun i x h=>(by cases h),fun _=>rfl,by simp [aT],by simp,fun _ h=>(by cases h),fun _ h=>(by cases h)⟩,rfl,fun b hb=>by rw [hids] at hb; exact hb⟩,hn⟩,?_,fun x hx=>?_⟩
  · rw [hnn]
  · first | exact hN | (rw [← hs]; exact hN)
  · first | exact hk | (rw [← hs]; exact hk)
  · have:((st.push (.mp [] [] 0)).push (.mp [] [] 0)).push (.cells [.lit (.int .u64 (now:Nat)),.map st.boxes.length,.map (st.boxes.length + 1)]) = s:=hs.symm
    simp only [List.mem_cons,List.not_mem_nil,or_false] at hx
    first | (rw [this]; omega) | omega

/-! A net of one's own. -/
structure NetK (st0 st:St) (n k:Nat) (R:NR):Prop where
  ex:∃ sid wid F,NetR st n sid wid k R F∧(∀ x ∈ F,st0.boxes.length≤x∧x < st.boxes.length)∧Kp st0 st []
section
variable {st0 st:St} {n k:Nat} {R:NR}
theorem NetK.go {sid wid:Nat} {F F':List Nat} {st':St} {R':NR} (h2:∀ x ∈ F,st0.boxes.length≤x∧x < st.boxes.length) (h3:Kp st0 st []) (h:NP st st' n sid wid k F R' F'):NetK st0 st' n (k + 1) R' :=
  ⟨⟨sid,wid,F',h.1,fun x hx=>⟨(h.2.2 x hx).1.elim (fun q=>(h2 x q).1) (fun q=>Nat.le_trans h3.1 q),(h.2.2 x hx).2⟩,h3.trans h.2.1 fun x hx=>.inr (h2 x hx).1⟩⟩
theorem kNew (st:St) (now:Nat) (hn:now < 18446744073709551615):ao Go.Proofs.Try.prog n_f8 [.lit (.int .u64 (now:Nat))] st (fun v st'=>∃ n,v = .tup [.ptr n 0,.lit (.int .i64 0)]∧NetK st st' n 0 ⟨now,[],[]⟩) :=
  (py st now hn).mono fun v st' ⟨n,sid,wid,F,e,h1,h2,h3⟩=>⟨n,e,⟨⟨sid,wid,F,h1,h3,h2⟩⟩⟩
theorem kBind (hh:NetK st0 st n k R) (nm:ByteArray) (port packets bytes pol:Int) (life:Nat) (hnm:nm.size < 1000000) (hlife:life < 18446744073709551616) :
    ao Go.Proofs.Try.prog n_f9 [.ptr n 0,adAV nm port,.lit (.int .i64 packets),.lit (.int .i64 bytes),.lit (.int .i64 pol),.lit (.int .u64 (life:Nat))] st
      (fun x st'=>x = .tup [.lit (.int .i64 (eM nm port packets bytes pol life R).2.1),.lit (.int .i64 (eM nm port packets bytes pol life R).2.2)]∧NetK st0 st' n (k + 1) (eM nm port packets bytes pol life R).1):=by
  obtain ⟨sid,wid,F,h1,h2,h3⟩:=hh.ex
  exact (jE h1 nm port packets bytes pol life hnm hlife).mono fun v st' ⟨F',e,r⟩=>⟨e,NetK.go h2 h3 r⟩
theorem kAdv (hh:NetK st0 st n k R) (to:Int) (h0:0≤to) (h1':to < 18446744073709551616) (hk:k < 90000) :
    ao Go.Proofs.Try.prog n_f38 [.ptr n 0,.lit (.int .u64 to)] st (fun x st'=>x = .tup [.lit (.int .i64 (rAdv to R).2.1),.lit (.int .i64 (rAdv to R).2.2)]∧NetK st0 st' n (k + 1) (rAdv to R).1):=by
  obtain ⟨sid,wid,F,h1,h2,h3⟩:=hh.ex
  exact (pv h1 to h0 h1' hk).mono fun v st' ⟨F',e,r⟩=>⟨e,NetK.go h2 h3 r⟩
theorem kSend (hh:NetK st0 st n k R) (from_:Int) (nm:ByteArray) (port:Int) (hnm:nm.size < 1000000) {d:List UInt8} (hd:d.length≤100000) (hk:k < 900000) :
    ao Go.Proofs.Try.prog n_f36 [.ptr n 0,.lit (.int .i64 from_),adAV nm port,.sl false 1 (BB d)] st (fun x st'=>∃ av P,x = .tup [av,.lit (.int .i64 (cc from_ nm port d R).2.2)]∧AllV P false av st' (cc from_ nm port d R).2.1∧NetK st0 st' n (k + 1) (cc from_ nm port d R).1):=by
  obtain ⟨sid,wid,F,h1,h2,h3⟩:=hh.ex
  exact (nI h1 (fun x hx=>(h2 x hx).2) from_ nm port hnm (DV.sl st d) hd hk).mono fun v st' ⟨av,F',e,ha,r⟩=>⟨av,_,e,ha,NetK.go h2 h3 r⟩
theorem kTry (hh:NetK st0 st n k R) (at_ most:Int):ao Go.Proofs.Try.prog n_f31 [.ptr n 0,.lit (.int .i64 at_),.lit (.int .i64 most)] st (fun x st'=>∃ ov P,x = .tup [ov,.lit (.int .i64 (rTry at_ most R).2.2)]∧OneV P ov st' (rTry at_ most R).2.1∧NetK st0 st' n (k + 1) (rTry at_ most R).1):=by
  obtain ⟨sid,wid,F,h1,h2,h3⟩:=hh.ex
  exact (pu h1 at_ most).mono fun v st' ⟨ov,F',e,ha,r⟩=>⟨ov,_,e,ha,NetK.go h2 h3 r⟩
theorem kRecv (hh:NetK st0 st n k R) (t at_ most:Int) (hk:k < 90000):ao Go.Proofs.Try.prog n_f34 [.ptr n 0,.lit (.int .i64 t),.lit (.int .i64 at_),.lit (.int .i64 most)] st (fun x st'=>∃ ov P,x = .tup [ov,.lit (.bool (fL t at_ most R).2.2.1),.lit (.int .i64 (fL t at_ most R).2.2.2)]∧OneV P ov st' (fL t at_ most R).2.1∧NetK st0 st' n (k + 1) (fL t at_ most R).1):=by
  obtain ⟨sid,wid,F,h1,h2,h3⟩:=hh.ex
  exact (nK h1 t at_ most hk).mono fun v st' ⟨ov,F',e,ha,r⟩=>⟨ov,_,e,ha,NetK.go h2 h3 r⟩
theorem kLen (hh:NetK st0 st n k R) (i:Int):az Go.Proofs.Try.prog n_f15 [.ptr n 0,.lit (.int .i64 i)] st (.lit (.int .i64 (lenO (atS i R.socks)))):=by
  obtain ⟨sid,wid,F,h1,h2,h3⟩:=hh.ex
  obtain ⟨M,Wm,W,q1,q2,q3,q4,q5⟩:=h1.ex
  exact pq q1 q2 i
theorem kDr (hh:NetK st0 st n k R) (i:Int):az Go.Proofs.Try.prog n_f17 [.ptr n 0,.lit (.int .i64 i)] st (.lit (.int .i64 (drO (atS i R.socks)))):=by
  obtain ⟨sid,wid,F,h1,h2,h3⟩:=hh.ex
  obtain ⟨M,Wm,W,q1,q2,q3,q4,q5⟩:=h1.ex
  exact ndr_pure q1 q2 i
theorem kOld (hh:NetK st0 st n k R) (i:Int):az Go.Proofs.Try.prog n_f18 [.ptr n 0,.lit (.int .i64 i)] st (.lit (.int .i64 (oldO (atS i R.socks)))):=by
  obtain ⟨sid,wid,F,h1,h2,h3⟩:=hh.ex
  obtain ⟨M,Wm,W,q1,q2,q3,q4,q5⟩:=h1.ex
  exact pr q1 q2 i
end
theorem iV (st:St) (nm:ByteArray) (port:Int):az Go.Proofs.Try.prog n_f10 [.lit (.string nm),.lit (.int .i64 port)] st (adAV nm port):=by
  refine aB hmix k_f10 rfl rfl fun Q hQ=>?_
  unfold aFun c_f10
  unfold adAV at hQ
  simp (config:=KF) (disch:=omega) only [bZ,retI,d5,bU,bstV,al,aa,aP,bk,↓reduceIte,Nat.reduceEqDiff,Nat.reduceAdd,Nat.reduceLeDiff,reduceCtorEq]
  exact hQ _
theorem kSends {st0 st:St} {n k:Nat} {R:NR} (hh:NetK st0 st n k R) (from_:Int) (nm:ByteArray) (port:Int) (hnm:nm.size < 1000000) {d:List UInt8} (hd:d.length≤1000) (hk:k < 900000) {av:AV} {P:Nat→Prop} {l:List Rc} (hav:∀ st:St,AllV P false av st l) (hl:l.length < 10) (hr:(cc from_ nm port d R).2.1.length < 100000) :
    ao Go.Proofs.Try.prog n_f30 [.ptr n 0,.lit (.int .i64 from_),adAV nm port,.lit (.string (str d)),av] st
      (fun x st'=>x = .lit (.bool (decide ((cc from_ nm port d R).2.2 = 0) && gJ (cc from_ nm port d R).2.1 l))∧NetK st0 st' n (k + 1) (cc from_ nm port d R).1):=by
  obtain ⟨w1,w2,w3,w4,w5,w6,w7,w8⟩:=(hav st).facts
  have hs:=kSend hh from_ nm port hnm (d:=d) (by omega) hk
  unfold adAV at hs ⊢
  refine aA hmix k_f30 rfl rfl fun Q hQ=>?_
  unfold aFun c_f30
  have hsz:(str d).size = d.length:=by simp [str,ByteArray.size]
  have hbb:List.map d8 (str d).data.toList = BB d:=by simp [str,BB]
  simp (config:=KF) (disch:=omega) only [bZ,m8,fo,hZ,aa,id,↓reduceIte,Nat.reduceEqDiff,Nat.reduceAdd,Nat.reduceLeDiff,reduceCtorEq,bV,w1,w7,hsz,hbb]
  refine aq rfl e_f36 hs rfl fun v st1 hq=>?_
  obtain ⟨bv,P',rfl,ha,h1⟩:=hq
  obtain ⟨y1,y2,y3,y4,y5,y6,y7,y8⟩:=ha.facts
  simp (config:=KF) (disch:=omega) only [bZ,AI.dst,ba,↓reduceIte,Nat.reduceEqDiff,reduceCtorEq,y1,y3]
  refine aZ (fun c=>?_) (fun c=>?_)
  · simp (config:=KF) (disch:=omega) only [bZ,AI.dst,id,↓reduceIte,Nat.reduceEqDiff,w1,y1]
    refine am (vs:=[bv,av]) (by simp [y1,w1]) e_f46 (same_pure ha (hav st1) hr (by omega)) (by simp [y5,w5]) ?_
    simp (config:=KF) (disch:=omega) only [bZ,retI,↓reduceIte,Nat.reduceEqDiff]
    exact hQ _ _ ⟨by rw [decide_eq_true c,Bool.true_and],h1⟩
  · simp (config:=KF) (disch:=omega) only [bZ,retI,AI.dst,↓reduceIte,Nat.reduceEqDiff]
    exact hQ _ _ ⟨by rw [decide_eq_false c,Bool.false_and],h1⟩
theorem kAdvs {st0 st:St} {n k:Nat} {R:NR} (hh:NetK st0 st n k R) (to:Int) (h0:0≤to) (h1':to < 18446744073709551616) (hk:k < 90000) (want:Int) :
    ao Go.Proofs.Try.prog n_f33 [.ptr n 0,.lit (.int .u64 to),.lit (.int .i64 want)] st (fun x st'=>x = .lit (.bool (decide ((rAdv to R).2.2 = 0) && decide ((rAdv to R).2.1 = want)))∧NetK st0 st' n (k + 1) (rAdv to R).1):=by
  refine aA hmix k_f33 rfl rfl fun Q hQ=>?_
  unfold aFun c_f33
  simp (config:=KF) (disch:=omega) only [bZ,id,↓reduceIte,Nat.reduceEqDiff,Nat.reduceAdd,reduceCtorEq]
  refine aq rfl e_f38 (kAdv hh to h0 h1' hk) rfl fun v st1 hr=>?_
  obtain ⟨rfl,h1⟩:=hr
  simp (config:=KF) (disch:=omega) only [bZ,AI.dst,ba,↓reduceIte,Nat.reduceEqDiff,reduceCtorEq]
  refine aZ (fun c=>?_) (fun c=>?_)
  · simp (config:=KF) (disch:=omega) only [bZ,retI,AI.dst,↓reduceIte,Nat.reduceEqDiff]
    exact hQ _ _ ⟨by rw [decide_eq_true c,Bool.true_and],h1⟩
  · simp (config:=KF) (disch:=omega) only [bZ,retI,AI.dst,↓reduceIte,Nat.reduceEqDiff]
    exact hQ _ _ ⟨by rw [decide_eq_false c,Bool.false_and],h1⟩
end Go.Fx.YtgmeefljgbaanaaFx

