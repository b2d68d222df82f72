/- What the functions that the statement reaches compute: part 12. -/
import Derived.Test.YtgmeefljgbaanaaFxW11
namespace Go.Fx.YtgmeefljgbaanaaFx
open Go Go.Fx
attribute [local irreducible] aC runI aG aH

set_option maxRecDepth 100000
set_option maxHeartbeats 4000000

theorem pL(st:St)(now:Nat)(hn:now<18446744073709551615):aF Go.Proofs.Try.prog n_f8 [.lit (.int .u64 (now:Nat))] st
  (fun v st'=>∃n sid wid F,v= .tup [.ptr n 0,.lit (.int .i64 0)]∧NetR st' n sid wid 0 ⟨now,[],[]⟩ F∧Kp st st' []∧∀x∈F,st.boxes.length≤x∧x<st'.boxes.length):=by
 refine aK hmix k_f8 rfl rfl fun Q hQ=>?_
 unfold aFun c_f8
 have hne:¬((now:Int)=18446744073709551615):=by omega
 simp(config:=KF) (disch:=omega)only[bZ,retI,nv,qw,kF,ja,fO,eV,↓reduceIte,Nat.reduceEqDiff,Nat.reduceAdd,Nat.reduceLeDiff,reduceCtorEq,aJ,hne]
 obtain⟨n,hnn⟩:∃n,n=st.boxes.length:=⟨_,rfl⟩
 obtain⟨s,hs⟩:∃s,s=((st.push (.mp [] [] 0)).push (.mp [] [] 0)).push (.cells [.lit (.int .u64 (now:Nat)),.map st.boxes.length,.map (st.boxes.length+1)]):=⟨_,rfl⟩
 have hl:s.boxes.length=n+3:=by rw[hs,hnn];simp[aJ]
 have hg:s.get (n+2)=some [.lit (.int .u64 (now:Nat)),.map n,.map (n+1)]:=by
  have:=bG ((st.push (.mp [] [] 0)).push (.mp [] [] 0)) [.lit (.int .u64 (now:Nat)),.map st.boxes.length,.map (st.boxes.length+1)]
  rw[aJ,aJ,←hs,←hnn]at this
  exact this
 have h1:MapIs s n .i64 slAV []:=by
  have:=(((MapIs.new st .i64 slAV).push (.mp [] [] 0)).push (.cells [.lit (.int .u64 (now:Nat)),.map st.boxes.length,.map (st.boxes.length+1)]))
  rw[←hs,←hnn]at this;exact this
 have h2:MapIs s (n+1) .i64 weAV []:=by
  have:=((MapIs.new (st.push (.mp [] [] 0)) .i64 weAV).push (.cells [.lit (.int .u64 (now:Nat)),.map st.boxes.length,.map (st.boxes.length+1)]))
  rw[aJ,←hs,←hnn]at this;exact this
 have hN:NetIs s (n+2) n (n+1) now [] []:=⟨hg,h1,h2,fun i x h=>(by cases h),by omega,fun _=>-1,fun i x h=>(by cases h),rfl,rfl,rfl⟩
 have hids:ck (n+2) n (n+1) []= [n+2,n,n+1]:=rfl
 have hk:Kp st s []:=⟨by omega,fun i hi _=>by rw[hs,bp (by simp[aJ];omega),bp (by simp[aJ];omega),bp hi]⟩
 refine hQ _ _ ⟨n+2,n,n+1,[n+2,n,n+1],?_,⟨⟨[],[],[],?_,⟨fun _=>rfl,rfl,List.Pairwise.nil,fun _ h=>(by cases h)⟩,⟨fun i x h=>(by cases h),fun _=>rfl,by simp[aV],by simp,fun _ h=>(by cases h),fun _ h=>(by cases h)⟩,rfl,fun b hb=>by rw[hids]at hb;exact hb⟩,hn⟩,?_,fun x hx=>?_⟩
 ·rw[hnn]
 ·first|exact hN|(rw[←hs];exact hN)
 ·first|exact hk|(rw[←hs];exact hk)
 ·have:((st.push (.mp [] [] 0)).push (.mp [] [] 0)).push (.cells [.lit (.int .u64 (now:Nat)),.map st.boxes.length,.map (st.boxes.length+1)])=s:=hs.symm
  simp only[List.mem_cons,List.not_mem_nil,or_false]at hx
  first|(rw[this];omega)|omega

structure NetK (st0 st:St) (n k:Nat) (R:NR):Prop where
 ex:∃sid wid F,NetR st n sid wid k R F∧(∀x∈F,st0.boxes.length≤x∧x<st.boxes.length)∧Kp st0 st []
section
variable {st0 st:St} {n k:Nat} {R:NR}
theorem NetK.go{sid wid:Nat}{F F':List Nat}{st':St}{R':NR}(h2:∀x∈F,st0.boxes.length≤x∧x<st.boxes.length)(h3:Kp st0 st [])(h:NP st st' n sid wid k F R' F'):NetK st0 st' n (k+1) R' :=
 ⟨⟨sid,wid,F',h.1,fun x hx=>⟨(h.2.2 x hx).1.elim (fun q=>(h2 x q).1) (fun q=>Nat.le_trans h3.1 q),(h.2.2 x hx).2⟩,h3.trans h.2.1 fun x hx=>.inr (h2 x hx).1⟩⟩
theorem kNew(st:St)(now:Nat)(hn:now<18446744073709551615):aF Go.Proofs.Try.prog n_f8 [.lit (.int .u64 (now:Nat))] st (fun v st'=>∃n,v= .tup [.ptr n 0,.lit (.int .i64 0)]∧NetK st st' n 0 ⟨now,[],[]⟩) :=
 (pL st now hn).mono fun v st' ⟨n,sid,wid,F,e,h1,h2,h3⟩=>⟨n,e,⟨⟨sid,wid,F,h1,h3,h2⟩⟩⟩
theorem kBind(hh:NetK st0 st n k R)(nm:ByteArray)(port packets bytes pol:Int)(life:Nat)(hnm:nm.size<1000000)(hlife:life<18446744073709551616) :
  aF Go.Proofs.Try.prog n_f9 [.ptr n 0,adAV nm port,.lit (.int .i64 packets),.lit (.int .i64 bytes),.lit (.int .i64 pol),.lit (.int .u64 (life:Nat))] st
   (fun x st'=>x= .tup [.lit (.int .i64 (dc nm port packets bytes pol life R).2.1),.lit (.int .i64 (dc nm port packets bytes pol life R).2.2)]∧NetK st0 st' n (k+1) (dc nm port packets bytes pol life R).1):=by
 obtain⟨sid,wid,F,h1,h2,h3⟩:=hh.ex
 exact(nW h1 nm port packets bytes pol life hnm hlife).mono fun v st' ⟨F',e,r⟩=>⟨e,NetK.go h2 h3 r⟩
theorem kAdv(hh:NetK st0 st n k R)(to:Int)(h0:0≤to)(h1':to<18446744073709551616)(hk:k<90000) :
  aF Go.Proofs.Try.prog n_f38 [.ptr n 0,.lit (.int .u64 to)] st (fun x st'=>x= .tup [.lit (.int .i64 (rAdv to R).2.1),.lit (.int .i64 (rAdv to R).2.2)]∧NetK st0 st' n (k+1) (rAdv to R).1):=by
 obtain⟨sid,wid,F,h1,h2,h3⟩:=hh.ex
 exact(pI h1 to h0 h1' hk).mono fun v st' ⟨F',e,r⟩=>⟨e,NetK.go h2 h3 r⟩
theorem kSend(hh:NetK st0 st n k R)(from_:Int)(nm:ByteArray)(port:Int)(hnm:nm.size<1000000){d:List UInt8}(hd:d.length≤100000)(hk:k<900000) :
  aF Go.Proofs.Try.prog n_f36 [.ptr n 0,.lit (.int .i64 from_),adAV nm port,.sl false 1 (BB d)] st (fun x st'=>∃av P,x= .tup [av,.lit (.int .i64 (cy from_ nm port d R).2.2)]∧AllV P false av st' (cy from_ nm port d R).2.1∧NetK st0 st' n (k+1) (cy from_ nm port d R).1):=by
 obtain⟨sid,wid,F,h1,h2,h3⟩:=hh.ex
 exact(oq h1 (fun x hx=>(h2 x hx).2) from_ nm port hnm (DV.sl st d) hd hk).mono fun v st' ⟨av,F',e,ha,r⟩=>⟨av,_,e,ha,NetK.go h2 h3 r⟩
theorem kTry(hh:NetK st0 st n k R)(at_ most:Int):aF Go.Proofs.Try.prog n_f31 [.ptr n 0,.lit (.int .i64 at_),.lit (.int .i64 most)] st (fun x st'=>∃ov P,x= .tup [ov,.lit (.int .i64 (rTry at_ most R).2.2)]∧OneV P ov st' (rTry at_ most R).2.1∧NetK st0 st' n (k+1) (rTry at_ most R).1):=by
 obtain⟨sid,wid,F,h1,h2,h3⟩:=hh.ex
 exact(p5 h1 at_ most).mono fun v st' ⟨ov,F',e,ha,r⟩=>⟨ov,_,e,ha,NetK.go h2 h3 r⟩
theorem kRecv(hh:NetK st0 st n k R)(t at_ most:Int)(hk:k<90000):aF Go.Proofs.Try.prog n_f34 [.ptr n 0,.lit (.int .i64 t),.lit (.int .i64 at_),.lit (.int .i64 most)] st (fun x st'=>∃ov P,x= .tup [ov,.lit (.bool (ei t at_ most R).2.2.1),.lit (.int .i64 (ei t at_ most R).2.2.2)]∧OneV P ov st' (ei t at_ most R).2.1∧NetK st0 st' n (k+1) (ei t at_ most R).1):=by
 obtain⟨sid,wid,F,h1,h2,h3⟩:=hh.ex
 exact(oz h1 t at_ most hk).mono fun v st' ⟨ov,F',e,ha,r⟩=>⟨ov,_,e,ha,NetK.go h2 h3 r⟩
theorem kLen(hh:NetK st0 st n k R)(i:Int):az Go.Proofs.Try.prog n_f15 [.ptr n 0,.lit (.int .i64 i)] st (.lit (.int .i64 (lenO (atS i R.socks)))):=by
 obtain⟨sid,wid,F,h1,h2,h3⟩:=hh.ex
 obtain⟨M,Wm,W,q1,q2,q3,q4,q5⟩:=h1.ex
 exact pY q1 q2 i
theorem kDr(hh:NetK st0 st n k R)(i:Int):az Go.Proofs.Try.prog n_f17 [.ptr n 0,.lit (.int .i64 i)] st (.lit (.int .i64 (drO (atS i R.socks)))):=by
 obtain⟨sid,wid,F,h1,h2,h3⟩:=hh.ex
 obtain⟨M,Wm,W,q1,q2,q3,q4,q5⟩:=h1.ex
 exact ndr_pure q1 q2 i
theorem kOld(hh:NetK st0 st n k R)(i:Int):az Go.Proofs.Try.prog n_f18 [.ptr n 0,.lit (.int .i64 i)] st (.lit (.int .i64 (oldO (atS i R.socks)))):=by
 obtain⟨sid,wid,F,h1,h2,h3⟩:=hh.ex
 obtain⟨M,Wm,W,q1,q2,q3,q4,q5⟩:=h1.ex
 exact pZ q1 q2 i
end
theorem lE(st:St)(nm:ByteArray)(port:Int):az Go.Proofs.Try.prog n_f10 [.lit (.string nm),.lit (.int .i64 port)] st (adAV nm port):=by
 refine al hmix k_f10 rfl rfl fun Q hQ=>?_
 unfold aFun c_f10
 unfold adAV at hQ
 simp(config:=KF) (disch:=omega)only[bZ,retI,af,aa,↓reduceIte,Nat.reduceEqDiff,Nat.reduceAdd,Nat.reduceLeDiff,reduceCtorEq]
 exact hQ _
theorem kSends{st0 st:St}{n k:Nat}{R:NR}(hh:NetK st0 st n k R)(from_:Int)(nm:ByteArray)(port:Int)(hnm:nm.size<1000000){d:List UInt8}(hd:d.length≤1000)(hk:k<900000){av:AV}{P:Nat→Prop}{l:List Rc}(hav:∀st:St,AllV P false av st l)(hl:l.length<10)(hr:(cy from_ nm port d R).2.1.length<100000) :
  aF Go.Proofs.Try.prog n_f30 [.ptr n 0,.lit (.int .i64 from_),adAV nm port,.lit (.string (str d)),av] st
   (fun x st'=>x= .lit (.bool (decide ((cy from_ nm port d R).2.2=0) && fS (cy from_ nm port d R).2.1 l))∧NetK st0 st' n (k+1) (cy from_ nm port d R).1):=by
 obtain⟨w1,w2,w3,w4,w5,w6,w7,w8⟩:=(hav st).facts
 have hs:=kSend hh from_ nm port hnm (d:=d) (by omega) hk
 unfold adAV at hs ⊢
 refine aK hmix k_f30 rfl rfl fun Q hQ=>?_
 unfold aFun c_f30
 have hsz:(str d).size=d.length:=by simp[str,ByteArray.size]
 have hbb:List.map d9 (str d).data.toList=BB d:=by simp[str,BB]
 simp(config:=KF) (disch:=omega)only[bZ,o_conv,jr,aa,id,↓reduceIte,Nat.reduceEqDiff,Nat.reduceAdd,Nat.reduceLeDiff,reduceCtorEq,w1,w7,hsz,hbb]
 refine aR rfl e_f36 hs rfl fun v st1 hq=>?_
 obtain⟨bv,P',rfl,ha,h1⟩:=hq
 obtain⟨y1,y2,y3,y4,y5,y6,y7,y8⟩:=ha.facts
 simp(config:=KF) (disch:=omega)only[bZ,AI.dst,↓reduceIte,Nat.reduceEqDiff,reduceCtorEq,y1,y3]
 refine bj (fun c=>?_) (fun c=>?_)
 ·simp(config:=KF) (disch:=omega)only[bZ,AI.dst,id,↓reduceIte,Nat.reduceEqDiff,w1,y1]
  refine ag (vs:=[bv,av]) (by simp[y1,w1]) e_f46 (pK ha (hav st1) hr (by omega)) (by simp[y5,w5]) ?_
  simp(config:=KF) (disch:=omega)only[bZ,retI,↓reduceIte,Nat.reduceEqDiff]
  exact hQ _ _ ⟨by rw[decide_eq_true c,Bool.true_and],h1⟩
 ·simp(config:=KF) (disch:=omega)only[bZ,retI,AI.dst,↓reduceIte,Nat.reduceEqDiff]
  exact hQ _ _ ⟨by rw[decide_eq_false c,Bool.false_and],h1⟩
theorem kAdvs{st0 st:St}{n k:Nat}{R:NR}(hh:NetK st0 st n k R)(to:Int)(h0:0≤to)(h1':to<18446744073709551616)(hk:k<90000)(want:Int) :
  aF Go.Proofs.Try.prog n_f33 [.ptr n 0,.lit (.int .u64 to),.lit (.int .i64 want)] st (fun x st'=>x= .lit (.bool (decide ((rAdv to R).2.2=0) && decide ((rAdv to R).2.1=want)))∧NetK st0 st' n (k+1) (rAdv to R).1):=by
 refine aK hmix k_f33 rfl rfl fun Q hQ=>?_
 unfold aFun c_f33
 simp(config:=KF) (disch:=omega)only[bZ,id,↓reduceIte,Nat.reduceEqDiff,Nat.reduceAdd,reduceCtorEq]
 refine aR rfl e_f38 (kAdv hh to h0 h1' hk) rfl fun v st1 hr=>?_
 obtain⟨rfl,h1⟩:=hr
 simp(config:=KF) (disch:=omega)only[bZ,AI.dst,↓reduceIte,Nat.reduceEqDiff,reduceCtorEq]
 refine bj (fun c=>?_) (fun c=>?_)
 ·simp(config:=KF) (disch:=omega)only[bZ,retI,AI.dst,↓reduceIte,Nat.reduceEqDiff]
  exact hQ _ _ ⟨by rw[decide_eq_true c,Bool.true_and],h1⟩
 ·simp(config:=KF) (disch:=omega)only[bZ,retI,AI.dst,↓reduceIte,Nat.reduceEqDiff]
  exact hQ _ _ ⟨by rw[decide_eq_false c,Bool.false_and],h1⟩
end Go.Fx.YtgmeefljgbaanaaFx

namespace Go.Fx.YtgmeefljgbaanaaFx
open Go Go.Fx
attribute [local irreducible] aC runI aG aH

set_option maxRecDepth 100000
set_option maxHeartbeats 4000000

abbrev nA:ByteArray:=⟨#[97]⟩
abbrev nB:ByteArray:=⟨#[98]⟩
abbrev nC:ByteArray:=⟨#[99]⟩
def X0:NR:=⟨100,[],[]⟩
def X1:=(dc nA 1 2 8 1 10 X0).1
def X2:=(dc nB 7 2 4 2 0 X1).1
def X3:=(cy 1 nA 1 [97,98,99] X2).1
def X4:=(cy 1 nA 1 [100,101,102] X3).1
def X5:=(cy 1 nA 1 [103,104,105] X4).1
def X6:=(rTry 0 2 X5).1
def X7:=(rAdv 109 X6).1
def X8:=(rAdv 110 X7).1
def X9:=(ei 5 0 9 X8).1
def Xa:=(cy 0 nA 1 [120,121,122] X9).1
def Xb:=(cy 0 nB 7 [49,50,51,52,53] Xa).1
theorem x1:dc nA 1 2 8 1 10 X0=(X1,0,0):=rfl
theorem x2:dc nB 7 2 4 2 0 X1=(X2,1,0):=rfl
theorem x3:cy 1 nA 1 [97,98,99] X2=(X3,[],0):=rfl
theorem x4:cy 1 nA 1 [100,101,102] X3=(X4,[],0):=rfl
theorem x5:cy 1 nA 1 [103,104,105] X4=(X5,[],0):=rfl
theorem x5':lenO (atS 0 X5.socks)=2∧drO (atS 0 X5.socks)=1:=⟨rfl,rfl⟩
theorem x6:rTry 0 2 X5=(X6,⟨0,nB,7,[100,101],100,true,0⟩,0):=rfl
theorem x7:rAdv 109 X6=(X7,0,0):=rfl
theorem x8:rAdv 110 X7=(X8,1,0):=rfl
theorem x8':oldO (atS 0 X8.socks)=1:=rfl
theorem x8'':rTry 0 9 X8=(X8,rc0,16):=rfl
theorem x9:ei 5 0 9 X8=(X9,rc0,false,0):=rfl
theorem xa:cy 0 nA 1 [120,121,122] X9=(Xa,[⟨5,nA,1,[120,121,122],110,false,0⟩],0):=rfl
theorem xb:cy 0 nB 7 [49,50,51,52,53] Xa=(Xb,[],0):=rfl
theorem xc:cy 0 nC 9 [49] Xb=(Xb,[],0):=rfl
theorem xc':drO (atS 1 Xb.socks)=1∧lenO (atS 1 Xb.socks)=0:=⟨rfl,rfl⟩

theorem mg(st:St):aF Go.Proofs.Try.prog n_f11 [] st (fun v st'=>v= .lit (.bool true)∧Kp st st' []):=by
 refine aK hmix k_f11 rfl rfl fun Q hQ=>?_
 unfold aFun c_f11
 have snd:∀{st0 st:St} {n k:Nat} {R R':NR} {f:Int} {nm:ByteArray} {port:Int} {d:List UInt8} {l:List Rc} {P:Nat→Prop} {av:AV},NetK st0 st n k R→cy f nm port d R=(R',l,0)→nm.size<1000000→d.length≤1000→k<900000→(∀st:St,AllV P false av st l)→l.length<10 →
   aF Go.Proofs.Try.prog n_f30 [.ptr n 0,.lit (.int .i64 f),adAV nm port,.lit (.string (str d)),av] st (fun x st'=>x= .lit (.bool true)∧NetK st0 st' n (k+1) R'):=fun hh hr h1 h2 h3 h4 h5=>by
  have:=kSends hh _ _ _ h1 h2 h3 (l:=_) h4 h5 (by rw[hr];simp only;omega)
  rw[hr]at this
  simp only[jQ,decide_true,Bool.and_true]at this
  exact this
 have hnil:∀st:St,AllV (fun _=>False) false (.lit (.slice none 0 0)) st []:=fun _=>.inl ⟨rfl,rfl⟩
 simp(config:=KF) (disch:=omega)only[bZ,id]
 refine aR rfl e_f8 (kNew st 100 (by omega)) rfl fun v t1 hr=>?_
 obtain⟨n,rfl,h1⟩:=hr
 simp(config:=KF) (disch:=omega)only[bZ,AI.dst,bE,aU,id,own2_ptr,↓reduceIte,Nat.reduceEqDiff,not_true_eq_false]
 refine ag rfl e_f10 (lE t1 nA 1) rfl ?_
 unfold adAV
 simp(config:=KF) (disch:=omega)only[bZ,id,↓reduceIte,Nat.reduceEqDiff]
 refine ag rfl e_f10 (lE t1 nB 7) rfl ?_
 unfold adAV
 simp(config:=KF) (disch:=omega)only[bZ,af,aa,id,↓reduceIte,Nat.reduceEqDiff,Nat.reduceAdd,Nat.reduceLeDiff]
 have hb:=kBind h1 nA 1 2 8 1 10 (by decide) (by omega)
 rw[show(⟨100,[],[]⟩:NR)=X0 from rfl,x1]at hb
 refine aR (vs:=[.ptr n 0,adAV nA 1,.lit (.int .i64 2),.lit (.int .i64 8),.lit (.int .i64 1),.lit (.int .u64 10)]) rfl e_f9 hb rfl fun v t2 hr=>?_
 obtain⟨rfl,h2⟩:=hr
 simp(config:=KF) (disch:=omega)only[bZ,aa,id,↓reduceIte,Nat.reduceEqDiff,Nat.reduceAdd,Nat.reduceLeDiff]
 have hb:=kBind h2 nB 7 2 4 2 0 (by decide) (by omega)
 rw[x2]at hb
 refine aR (vs:=[.ptr n 0,adAV nB 7,.lit (.int .i64 2),.lit (.int .i64 4),.lit (.int .i64 2),.lit (.int .u64 0)]) rfl e_f9 hb rfl fun v t3 hr=>?_
 obtain⟨rfl,h3⟩:=hr
 simp(config:=KF) (disch:=omega)only[bZ,AI.dst,aa,id,↓reduceIte,Nat.reduceEqDiff,Nat.reduceAdd,Nat.reduceLeDiff,not_true_eq_false]
 refine aR rfl e_f30 (snd h3 x3 (by decide) (by decide) (by omega) hnil (by decide)) rfl fun v t4 hr=>?_
 obtain⟨rfl,h4⟩:=hr
 simp(config:=KF) (disch:=omega)only[bZ,AI.dst,aa,unA,id,↓reduceIte,Nat.reduceEqDiff,Nat.reduceAdd,Nat.reduceLeDiff]
 refine aR rfl e_f30 (snd h4 x4 (by decide) (by decide) (by omega) hnil (by decide)) rfl fun v t5 hr=>?_
 obtain⟨rfl,h5⟩:=hr
 simp(config:=KF) (disch:=omega)only[bZ,AI.dst,aa,unA,id,↓reduceIte,Nat.reduceEqDiff,Nat.reduceAdd,Nat.reduceLeDiff]
 refine aR rfl e_f30 (snd h5 x5 (by decide) (by decide) (by omega) hnil (by decide)) rfl fun v t6 hr=>?_
 obtain⟨rfl,h6⟩:=hr
 have z1:=kLen h6 0
 have z2:=kDr h6 0
 rw[x5'.1]at z1
 rw[x5'.2]at z2
 simp(config:=KF) (disch:=omega)only[bZ,AI.dst,unA,id,↓reduceIte,Nat.reduceEqDiff]
 refine ag rfl e_f15 z1 rfl ?_
 simp(config:=KF) (disch:=omega)only[bZ,AI.dst,id,↓reduceIte,Nat.reduceEqDiff,not_true_eq_false]
 refine ag rfl e_f17 z2 rfl ?_
 simp(config:=KF) (disch:=omega)only[bZ,AI.dst,id,↓reduceIte,Nat.reduceEqDiff,not_true_eq_false]
 have ht:=kTry h6 0 2
 rw[x6]at ht
 refine aR rfl e_f31 ht rfl fun v t7 hr=>?_
 obtain⟨ov,P,rfl,⟨w,rfl,m1,_⟩,h7⟩:=hr
 obtain⟨w1,w2,w3,w4,w5,w6,w7,w8⟩:=m1.facts
 unfold rcAV
 simp(config:=KF) (disch:=omega)only[bZ,AI.dst,bD,dX,bslV,af,a9,List.reduceReplicate,o9,aa,cd,id,ny,bu,cx,↓reduceIte,Nat.reduceEqDiff,Nat.reduceAdd,Nat.reduceLT,Nat.reduceLeDiff,not_true_eq_false,w2,w4]
 have he:=jP (a:=⟨0,nB,7,[100,101],100,true,0⟩) (b:=⟨0,nB,7,[100,101],100,true,0⟩) (DV.of_mb m1) (DV.sl t7 [100,101])
 rw[lD]at he
 unfold rcAV at he
 have he':az Go.Proofs.Try.prog n_f32 [.agg [.lit (.int .i64 0),.lit (.string nB),.lit (.int .i64 7),w,.lit (.int .u64 100),.lit (.bool true),.lit (.int .i64 0)],.agg [.lit (.int .i64 0),.lit (.string nB),.lit (.int .i64 7),.sl false 1 [.lit (.int .u8 100),.lit (.int .u8 101)],.lit (.int .u64 100),.lit (.bool true),.lit (.int .i64 0)]] t7 (.lit (.bool true)):=he
 refine ag (by simp[am,ai,aw,w2]) e_f32 he' (by simp[ao]) ?_
 simp(config:=KF) (disch:=omega)only[bZ,AI.dst,unA,id,↓reduceIte,Nat.reduceEqDiff]
 have ha:=kAdvs h7 109 (by omega) (by omega) (by omega) 0
 rw[x7]at ha
 refine aR rfl e_f33 ha rfl fun v t8 hr=>?_
 obtain⟨rfl,h8⟩:=hr
 simp(config:=KF) (disch:=omega)only[bZ,AI.dst,unA,id,↓reduceIte,Nat.reduceEqDiff]
 have ha:=kAdvs h8 110 (by omega) (by omega) (by omega) 1
 rw[x8]at ha
 refine aR rfl e_f33 ha rfl fun v t9 hr=>?_
 obtain⟨rfl,h9⟩:=hr
 have z3:=kOld h9 0
 rw[x8']at z3
 simp(config:=KF) (disch:=omega)only[bZ,AI.dst,unA,id,↓reduceIte,Nat.reduceEqDiff]
 refine ag rfl e_f18 z3 rfl ?_
 simp(config:=KF) (disch:=omega)only[bZ,AI.dst,id,↓reduceIte,Nat.reduceEqDiff,not_true_eq_false]
 have ht:=kTry h9 0 9
 rw[x8'']at ht
 refine aR rfl e_f31 ht rfl fun v t10 hr=>?_
 obtain⟨ov,P,rfl,⟨w',rfl,m2,_⟩,h10⟩:=hr
 obtain⟨y1,y2,y3,y4,y5,y6,y7,y8⟩:=m2.facts
 unfold rcAV
 simp(config:=KF) (disch:=omega)only[bZ,id,↓reduceIte,Nat.reduceEqDiff,y2]
 have hv:=kRecv h10 5 0 9 (by omega)
 rw[x9]at hv
 refine aR rfl e_f34 hv rfl fun v t11 hr=>?_
 obtain⟨ov,P,rfl,⟨w'',rfl,m3,_⟩,h11⟩:=hr
 obtain⟨y1,y2,y3,y4,y5,y6,y7,y8⟩:=m3.facts
 unfold rcAV
 simp(config:=KF) (disch:=omega)only[bZ,AI.dst,bD,dX,bslV,af,a9,List.reduceReplicate,o9,aa,cd,id,ny,bN,bu,cx,↓reduceIte,Nat.reduceEqDiff,Nat.reduceAdd,Nat.reduceLT,Nat.reduceLeDiff,not_true_eq_false,y2,y4]
 have hxa:∀st:St,AllV (fun _=>False) false (.sl false 7 [.agg [.lit (.int .i64 5),.lit (.string nA),.lit (.int .i64 1),.sl false 1 [.lit (.int .u8 120),.lit (.int .u8 121),.lit (.int .u8 122)],.lit (.int .u64 110),.lit (.bool false),.lit (.int .i64 0)]]) st [⟨5,nA,1,[120,121,122],110,false,0⟩]:=fun st=>.inr ⟨_,rfl,⟨.sl false 1 (BB [120,121,122]),rfl,DV.sl st _,fun b hb=>by cases hb⟩,trivial⟩
 refine aR rfl e_f30 (snd h11 xa (by decide) (by decide) (by omega) hxa (by decide)) rfl fun v t12 hr=>?_
 obtain⟨rfl,h12⟩:=hr
 simp(config:=KF) (disch:=omega)only[bZ,AI.dst,aa,unA,id,↓reduceIte,Nat.reduceEqDiff,Nat.reduceAdd,Nat.reduceLeDiff]
 refine aR rfl e_f30 (snd h12 xb (by decide) (by decide) (by omega) hnil (by decide)) rfl fun v t13 hr=>?_
 obtain⟨rfl,h13⟩:=hr
 simp(config:=KF) (disch:=omega)only[bZ,AI.dst,id,↓reduceIte,Nat.reduceEqDiff]
 refine ag rfl e_f10 (lE t13 nC 9) rfl ?_
 unfold adAV
 simp(config:=KF) (disch:=omega)only[bZ,AI.dst,id,↓reduceIte,Nat.reduceEqDiff]
 refine aR rfl e_f30 (snd h13 xc (by decide) (by decide) (by omega) hnil (by decide)) rfl fun v t14 hr=>?_
 obtain⟨rfl,h14⟩:=hr
 have z4:=kDr h14 1
 have z5:=kLen h14 1
 rw[xc'.1]at z4
 rw[xc'.2]at z5
 simp(config:=KF) (disch:=omega)only[bZ,AI.dst,id,↓reduceIte,Nat.reduceEqDiff]
 refine ag rfl e_f17 z4 rfl ?_
 simp(config:=KF) (disch:=omega)only[bZ,AI.dst,id,↓reduceIte,Nat.reduceEqDiff]
 refine ag rfl e_f15 z5 rfl ?_
 simp(config:=KF) (disch:=omega)only[bZ,retI,AI.dst,↓reduceIte,Nat.reduceEqDiff,reduceCtorEq]
 obtain⟨_,_,_,_,_,hk⟩:=h14.ex
 exact hQ _ _ ⟨rfl,hk⟩
end Go.Fx.YtgmeefljgbaanaaFx

namespace Go.Fx.YtgmeefljgbaanaaFx
open Go Go.Fx
attribute [local irreducible] aC runI aG aH

set_option maxRecDepth 100000
set_option maxHeartbeats 4000000

section
variable {st:St} {v:AV}
def actA(w t n m:Int)(nm:ByteArray)(port pol life:Int)(d:AV)(at_:Int):AV:=.agg [.lit (.int .i64 w),.lit (.int .i64 t),.lit (.int .i64 n),.lit (.int .i64 m),.lit (.string nm),.lit (.int .i64 port),.lit (.int .i64 pol),.lit (.int .u64 life),d,.lit (.int .u64 at_)]
def resA(n:Int)(b:Bool)(t:Int)(nm:ByteArray)(port:Int)(w:AV)(a:Nat)(c:Bool)(er:Int)(all:AV)(e:Int):AV:=.agg [.lit (.int .i64 n),.lit (.bool b),.lit (.int .i64 t),.lit (.string nm),.lit (.int .i64 port),w,.lit (.int .u64 (a:Nat)),.lit (.bool c),.lit (.int .i64 er),all,.lit (.int .i64 e)]
end
end Go.Fx.YtgmeefljgbaanaaFx

namespace Go.Fx.YtgmeefljgbaanaaFx
open Go Go.Fx
attribute [local irreducible] aC runI aG aH

set_option maxRecDepth 100000
set_option maxHeartbeats 4000000

structure RO where
 n:Int
 done:Bool
 one:Rc
 all:List Rc
 err:Int
def resV(x:RO)(w av:AV):AV:=resA x.n x.done x.one.task x.one.nm x.one.port w x.one.at_ x.one.cut x.one.err av x.err
def eqRO(a b:RO):Bool:=decide (a.n=b.n∧a.done=b.done∧eqRc a.one b.one=true∧fS a.all b.all=true∧a.err=b.err)
theorem rsame_pure{st:St}{P P':Nat→Prop}{v w va wa:AV}{a b:RO}(hv:DV v st a.one.data)(hw:DV w st b.one.data)(ha:AllV P false va st a.all)(hb:AllV P' false wa st b.all)(la:a.all.length<100000)(lb:b.all.length<100000) :
  az Go.Proofs.Try.prog n_f24 [resV a v va,resV b w wa] st (.lit (.bool (eqRO a b))):=by
 obtain⟨v1,v2,v3,v4,v5,v6,v7,v8⟩:=hv.facts
 obtain⟨w1,w2,w3,w4,w5,w6,w7,w8⟩:=hw.facts
 obtain⟨a1,a2,a3,a4,a5,a6,a7,a8⟩:=ha.facts
 obtain⟨b1,b2,b3,b4,b5,b6,b7,b8⟩:=hb.facts
 refine al hmix k_f24 rfl rfl fun Q hQ=>?_
 unfold aFun c_f24
 unfold resV resA
 unfold eqRO at hQ
 have hfin:∀x,x=decide (a.n=b.n∧a.done=b.done∧eqRc a.one b.one=true∧fS a.all b.all=true∧a.err=b.err)→∀st',Q (.lit (.bool x)) st':=fun x hx st'=>by rw[hx];exact hQ st'
 simp(config:=KF) (disch:=omega)only[bZ,AI.dst,addA,aa,↓reduceIte,Nat.reduceEqDiff,Nat.reduceAdd,reduceCtorEq,v2,v4,w2,w4,a2,a4,b2,b4]
 refine bj (fun h1=>?_) (fun h1=>?_)
 ·by_cases h2:a.done=b.done
  ·have hbb:binI .bool .eql (.lit (.bool a.done)) (.lit (.bool b.done))= .ok (.lit (.bool true)):=by rw[h2];cases b.done<;>rfl
   simp(config:=KF) (disch:=omega)only[bZ,AI.dst,addA,aa,id,↓reduceIte,Nat.reduceEqDiff,Nat.reduceAdd,Nat.reduceLeDiff,hbb,v2,w2]
   refine ag (vs:=[rcAV a.one.task a.one.nm a.one.port v a.one.at_ a.one.cut a.one.err,rcAV b.one.task b.one.nm b.one.port w b.one.at_ b.one.cut b.one.err]) (by simp[rcAV,v1,w1,v2,w2,am,ai]) e_f32 (jP hv hw) (by simp[rcAV,v5,w5,ao]) ?_
   simp(config:=KF) (disch:=omega)only[bZ,AI.dst,↓reduceIte,Nat.reduceEqDiff]
   cases h3:eqRc a.one b.one with
   | true =>
     simp(config:=KF) (disch:=omega)only[bZ,AI.dst,addA,aa,id,↓reduceIte,Nat.reduceEqDiff,a1,b1]
     refine ag (vs:=[va,wa]) (by simp[a1,b1]) e_f46 (pK ha hb la lb) (by simp[a5,b5]) ?_
     simp(config:=KF) (disch:=omega)only[bZ,AI.dst,↓reduceIte,Nat.reduceEqDiff]
     cases h4:fS a.all b.all with
     | true =>
       simp(config:=KF) (disch:=omega)only[bZ,retI,AI.dst,addA,aa,↓reduceIte,Nat.reduceEqDiff]
       exact hfin _ (by simp[h1,h2,h3,h4]) _
     | false =>
       simp(config:=KF) (disch:=omega)only[bZ,retI,AI.dst,↓reduceIte,Nat.reduceEqDiff]
       exact hfin _ (by simp[h4]) _
   | false =>
     simp(config:=KF) (disch:=omega)only[bZ,retI,AI.dst,↓reduceIte,Nat.reduceEqDiff]
     exact hfin _ (by simp[h3]) _
  ·have hbb:binI .bool .eql (.lit (.bool a.done)) (.lit (.bool b.done))= .ok (.lit (.bool false)):=by
    cases hx:a.done<;>cases hy:b.done<;>first|rfl|exact absurd (hx.trans hy.symm) h2
   simp(config:=KF) (disch:=omega)only[bZ,retI,AI.dst,addA,aa,↓reduceIte,Nat.reduceEqDiff,hbb]
   exact hfin _ (by simp[h2]) _
 ·simp(config:=KF) (disch:=omega)only[bZ,retI,AI.dst,↓reduceIte,Nat.reduceEqDiff]
  exact hfin _ (by simp[h1]) _

end Go.Fx.YtgmeefljgbaanaaFx

