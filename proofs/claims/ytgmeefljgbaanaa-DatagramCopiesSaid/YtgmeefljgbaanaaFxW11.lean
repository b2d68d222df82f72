/- What the functions that the statement reaches compute: part 11. -/
import Derived.Test.YtgmeefljgbaanaaFxW10
namespace Go.Fx.YtgmeefljgbaanaaFx
open Go Go.Fx
attribute [local irreducible] aC runI aG aH

set_option maxRecDepth 100000
set_option maxHeartbeats 4000000

theorem pJ:∀{l m:List Nat},l.Nodup→(∀x∈l,x∈m)→l.length≤m.length
 | [],_,_,_=>Nat.zero_le _
 | x :: r, m, hn, h => by
   obtain⟨h1,h2⟩:=List.nodup_cons.1 hn
   have hx:=h x (by simp)
   have ih:=pJ (m:=m.erase x) h2 fun y hy=>by
    have hy2:=h y (List.mem_cons_of_mem _ hy)
    exact(List.mem_erase_of_ne (fun e=>h1 (by rw[←e];exact hy))).2 hy2
   rw[List.length_erase_of_mem hx]at ih
   have:0<m.length:=List.length_pos_of_mem hx
   rw[List.length_cons];omega
theorem used_len{l:List Sk}{a:Nat}(h:∀j,j<a→(atS (j:Int) l).isSome=true):a≤l.length:=by
 have:=pJ (l:=List.range a) (m:=l.map Sk.num) List.nodup_range fun x hx=>by
  have hx:=h x (List.mem_range.1 hx)
  cases hs:atS (x:Int) l with
  |none=>rw[hs]at hx;cases hx
  | some S =>
    obtain⟨h1,h2⟩:=kN hs
    exact List.mem_map.2 ⟨S,h1,by omega⟩
 simpa using this
theorem SockR.ins{M:List (Int×SL)}{socks:List Sk}{k now:Nat}(h:SockR M socks k now){y:SL}(hno:aj (y.S.num:Int) M=Option.none)(hok:y.S.num<64∧y.S.dr+y.S.old+y.S.q.length≤k∧(y.S.pol=1∨y.S.pol=2)∧y.S.nm.size≤32∧y.S.life<18446744073709551616∧∀p∈y.S.q,p.data.length≤2048∧p.at_≤now) :
  SockR (updP (y.S.num:Int) y M) (insS y.S socks) k now:=by
 have hn:=h.none hno
 refine⟨fun j=>?_,?_,srt_ins h.srt,fun S hS=>?_⟩
 ·rw[aZ,atS_ins h.srt hn]
  split
  ·rfl
  ·exact h.at_ j
 ·rw[ez,hno,len_ins hn,h.len];rfl
 ·rcases mem_ins hS with rfl|hS
  ·exact hok
  ·exact h.ok S hS
theorem WaitR.ins{M:List (Int×SL)}{Wm:List (Int×WE)}{W:WL}{k:Nat}(h:WaitR M Wm W k){i:Int}{y:SL}(hno:aj i M=none)(hy:y.L= []∧y.g=0):WaitR (updP i y M) Wm W k:=by
 refine⟨fun j z hz=>?_,h.mp,h.kn,h.nd,h.ok,fun e he=>?_⟩
 ·rw[aZ]at hz
  split at hz
  ·rename_i e
   subst e;cases hz
   rw[hy.1,hy.2]
   refine⟨(qOf_nil fun a ha q=>?_).symm,Nat.zero_le _⟩
   obtain⟨x,hx⟩:=h.has a ha
   rw[q,hno]at hx;cases hx
  ·exact h.que j z hz
 ·obtain⟨x,hx⟩:=h.has e he
  rw[aZ]
  split
  ·exact⟨_,rfl⟩
  ·exact⟨x,hx⟩

def bindSS(st:St)(cs:List AV)(j:Nat)(s:St):Prop :=
 if j=0 then s=st
 else if j=1 then QIs s (st.boxes.length+1) st.boxes.length [] 0∧s.boxes.length=st.boxes.length+2∧∀id,id<st.boxes.length→s.boxes[id]?=st.boxes[id]?
 else QIs s (st.boxes.length+1) st.boxes.length [] 0∧s.boxes.length=st.boxes.length+3∧s.get (st.boxes.length+2)=some cs∧∀id,id<st.boxes.length→s.boxes[id]?=st.boxes[id]?
theorem bindSS_sub(st:St)(cs:List AV)(j:Nat)(s:St)(h:bindSS st cs j s):St.sub st s:=by
 unfold bindSS at h
 split at h
 ·subst h;exact St.sub_refl _
 ·split at h
  ·exact St.sub_of h.2.2
  ·exact St.sub_of h.2.2.2

theorem nW{st:St}{n sid wid k:Nat}{R:NR}{F:List Nat}(hh:NetR st n sid wid k R F)(nm:ByteArray)(port packets bytes pol:Int)(life:Nat)(hnm:nm.size<1000000)(hlife:life<18446744073709551616) :
  aF Go.Proofs.Try.prog n_f9 [.ptr n 0,adAV nm port,.lit (.int .i64 packets),.lit (.int .i64 bytes),.lit (.int .i64 pol),.lit (.int .u64 (life:Nat))] st
   (fun x st'=>∃F',x= .tup [.lit (.int .i64 (dc nm port packets bytes pol life R).2.1),.lit (.int .i64 (dc nm port packets bytes pol life R).2.2)]∧NP st st' n sid wid k F (dc nm port packets bytes pol life R).1 F'):=by
 obtain⟨M,Wm,W,h1,h2,h3,h4,h5⟩:=hh.ex
 have hg:=h1.get
 have hlt:=hh.lt
 have hlts:=h1.lts
 have hvp:=mj st nm port (by omega)
 have hof:=of_pure h1 h2 nm port
 unfold adAV at hvp hof ⊢
 refine aK hmix k_f9 rfl rfl fun Q hQ=>?_
 unfold aFun c_f9
 unfold dc at hQ
 have same:∀e:Int,∃F',(AV.tup [.lit (.int .i64 0),.lit (.int .i64 e)])= .tup [.lit (.int .i64 0),.lit (.int .i64 e)]∧NP st st n sid wid k F R F':=fun e=>by
  obtain⟨F',h1,h2⟩:=NP.of (hh.mono (Nat.le_succ k) fun _ q=>q) (Kp.refl st F) (fun b hb=>.inl hb)
  exact⟨F',rfl,h1⟩
 have hbad:¬(eE nm port=true∧1≤packets∧packets≤256∧0≤bytes∧bytes≤65536∧(pol=1∨pol=2))→Q (.tup [.lit (.int .i64 0),.lit (.int .i64 2)]) st:=fun c=>by
  rw[if_pos c]at hQ;exact hQ _ _ (same 2)
 have hgood:(eE nm port=true∧1≤packets∧packets≤256∧0≤bytes∧bytes≤65536∧(pol=1∨pol=2))→aC Go.Proofs.Try.prog id false f9_15 ⟨[(0,.ptr n 0),(2,.lit (.int .i64 packets)),(3,.lit (.int .i64 bytes)),(4,.lit (.int .i64 pol)),(5,.lit (.int .u64 (life:Nat))),(7,.lptr 7 0),(18,.lit (.bool false))],[(7,[.lit (.string nm),.lit (.int .i64 port)])]⟩ st (gn 0 (seqQ (aC Go.Proofs.Try.prog id false f9_25) (retQ [RI.tmp 12,RI.tmp 13] Q))):=fun c=>by
  rw[if_neg (fun q=>q c)]at hQ
  obtain⟨c1,c2,c3,c4,c5,c6⟩:=c
  simp(config:=KF) (disch:=omega)only[bZ,aa,id,↓reduceIte,Nat.reduceEqDiff,Nat.reduceAdd,Nat.reduceLeDiff,reduceCtorEq,f9_15e]
  refine ag rfl e_f28 hof rfl ?_
  cases ho:ofS nm port R.socks with
  | some S =>
    rw[ho]at hQ
    simp only[Option.isSome_some,if_true]at hQ
    have:(S.num:Int) ≥ 0:=by omega
    simp(config:=KF) (disch:=omega)only[bZ,retI,↓reduceIte,Nat.reduceEqDiff,reduceCtorEq,this]
    exact hQ _ _ (same 11)
  |none =>
  rw[ho]at hQ
  simp only[Option.isSome_none,Bool.false_eq_true,if_false]at hQ
  have hml:=h2.len
  have hle:=kI h1.smp
  simp(config:=KF) (disch:=omega)only[bZ,au,addA,aa,↓reduceIte,Nat.reduceEqDiff,Int.reduceNeg,reduceCtorEq,hg,hle]
  refine aA (fun d1=>?_) (fun d1=>?_)
  ·rw[if_pos (by omega)]at hQ
   simp(config:=KF) (disch:=omega)only[bZ,retI,↓reduceIte,Nat.reduceEqDiff,reduceCtorEq]
   exact hQ _ _ (same 7)
  rw[if_neg (by omega)]at hQ
  simp(config:=KF) (disch:=omega)only[bZ,↓reduceIte,Nat.reduceEqDiff,reduceCtorEq,f9_25e]
  rw[f9_29w]
  generalize hN:dG R.socks 64 0=N0 at hQ
  refine bB (A:=Nat) (fun a=>65-a) (fun a=>⟨[(0,.ptr n 0),(2,.lit (.int .i64 packets)),(3,.lit (.int .i64 bytes)),(4,.lit (.int .i64 pol)),(5,.lit (.int .u64 (life:Nat))),(7,.lptr 7 0),(14,.lit (.int .i64 (a:Nat)))],[(7,[.lit (.string nm),.lit (.int .i64 port)])]⟩) (fun _=>st)
   (fun a=>a≤64∧(∀j,j<a→(atS (j:Int) R.socks).isSome=true)∧dG R.socks (64-a) a=N0) 0 ⟨by omega,fun _ q=>absurd q (Nat.not_lt_zero _),hN⟩ (by simp(config:=KF) (disch:=omega)only[bZ,↓reduceIte,Nat.reduceEqDiff,reduceCtorEq];exact Sf.le_refl _) rfl fun a ha K hK hKe hKr=>?_
  obtain⟨a1,a2,a3⟩:=ha
  have hal:=used_len a2
  have ha64:a<64:=by omega
  have hlk:=dP h1 (a:Int)
  obtain⟨f,hf⟩:∃f,64-a=f+1:=⟨63-a,by omega⟩
  rw[hf]at a3
  unfold dG at a3
  cases hx:aj (a:Int) M with
  | some x =>
    rw[hx]at hlk
    have hsx:=(h2.some hx).1
    rw[hsx]at a3
    simp only[Option.isSome_some,if_true]at a3
    simp(config:=KF) (disch:=omega)only[bZ,bt,au,mw,aU,addA,aa,↓reduceIte,Nat.reduceEqDiff,reduceCtorEq,hg,hlk]
    refine hK (a+1) _ ⟨by omega,fun j hj=>?_,by rw[show 64-(a+1)=f by omega];exact a3⟩ (by omega) (Sf.le_refl _)
    by_cases e:j=a
    ·subst e;rw[hsx];rfl
    ·exact a2 j (by omega)
  | none =>
    rw[hx]at hlk
    have hsx:=h2.none hx
    rw[hsx]at a3
    simp only[Option.isSome_none,Bool.false_eq_true,if_false]at a3
    rw[←a3]at hQ
    simp(config:=KF) (disch:=omega)only[bZ,bt,au,mw,aU,addA,aa,↓reduceIte,Nat.reduceEqDiff,reduceCtorEq,hg,hlk]
    refine hKe _ _ _ ?_
    obtain⟨pn,rfl⟩:∃pn:Nat,packets=(pn:Int):=⟨packets.toNat,by omega⟩
    obtain⟨bn,rfl⟩:∃bn:Nat,bytes=(bn:Int):=⟨bytes.toNat,by omega⟩
    rw[Int.toNat_natCast,Int.toNat_natCast]at hQ
    obtain⟨cs,hcs⟩:∃cs:List AV,cs= [.lit (.string nm),.lit (.int .i64 port),.lit (.int .i64 (pn:Nat)),.lit (.int .i64 (bn:Nat)),.lit (.int .i64 pol),.lit (.int .u64 (life:Nat)),.lit (.slice none 0 0),.lit (.int .i64 0),.lit (.int .i64 0),.lit (.int .i64 0),.ptr (st.boxes.length+1) 0]:=⟨_,rfl⟩
    simp(config:=KF) (disch:=omega)only[bZ,↓reduceIte,f9_37e,f9_37h,f9_37l]
    refine draw_x (bindSS st cs) rfl (bindSS_sub st cs) ?_
    simp(config:=KF) (disch:=omega)only[bZ,mm_mv,qF,mA,nR,g_none_f,g_none_t,g_val,g_call,au,addA,aa,id,↓reduceIte,Nat.reduceEqDiff,Nat.reduceAdd,Nat.reduceLeDiff,reduceCtorEq,hg]
    refine call_x (v:=.ptr (st.boxes.length+1) 0) rfl e_f29 (fun s hs=>by
     have hs:s=st:=hs
     subst hs
     exact(qnew_calls s).mono fun r st' ⟨e,q1,q2,q3⟩=>⟨e,q1,q2,q3⟩) rfl ?_
    simp(config:=KF) (disch:=omega)only[bZ,mm_bst,g_none_f,g_none_t,g_val,g_mkv,g_box,i9,eK,↓reduceIte,Nat.reduceEqDiff,Nat.reduceAdd,Nat.reduceLeDiff,reduceCtorEq]
    refine box_x (st.boxes.length+2) rfl rfl (fun s hs=>?_) ?_
    ·obtain⟨q1,q2,q3⟩:QIs s (st.boxes.length+1) st.boxes.length [] 0∧s.boxes.length=st.boxes.length+2∧∀id,id<st.boxes.length→s.boxes[id]?=st.boxes[id]?:=hs
     have hg2:=bG s cs
     rw[q2]at hg2
     refine⟨q2,q1.at (bp (by omega)) (bp (by omega)),by rw[aJ,q2],?_,fun id hid=>(bp (by omega)).trans (q3 id hid)⟩
     rw[hcs]at hg2 ⊢
     exact hg2
    simp(config:=KF) (disch:=omega)only[bZ,g_nil,g_mkv,tailG_nil,jx,↓reduceIte,Nat.reduceEqDiff,reduceCtorEq]
    intro s hs
    obtain⟨q1,q2,q3,q4⟩:QIs s (st.boxes.length+1) st.boxes.length [] 0∧s.boxes.length=st.boxes.length+3∧s.get (st.boxes.length+2)=some cs∧∀id,id<st.boxes.length→s.boxes[id]?=st.boxes[id]?:=hs
    have hks:Kp st s []:=⟨by omega,fun i hi _=>q4 i hi⟩
    have hns:=h1.kp hks fun _ _ q=>by cases q
    obtain⟨S,hS⟩:∃S:Sk,S=⟨a,nm,port,pn,bn,pol,life,[],0,0⟩:=⟨_,rfl⟩
    have hyi:(SL.mk (st.boxes.length+2) (st.boxes.length+1) st.boxes.length 0 (.lit (.slice none 0 0)) [] S).is s:=by
     refine⟨?_,?_,q1,?_,?_,?_,?_⟩
     ·rw[q3,hcs,hS];rfl
     ·rw[hS];exact PB.nil _
     ·rw[hS];simp only;omega
     ·rw[hS];simp only;omega
     ·rw[hS];simp[used]
     ·simp[ah]
    refine dY (b:=(SL.mk (st.boxes.length+2) (st.boxes.length+1) st.boxes.length 0 (.lit (.slice none 0 0)) [] S)) hns.smp rfl rfl fun s2 hm2 ho2=>?_
    have hadd:=h1.add (i:=(a:Int)) (by omega) hx hks hyi (fun b hb=>by
     unfold SL.ids at hb
     simp only[ah,List.append_nil,List.mem_cons,List.not_mem_nil,or_false]at hb
     omega) ho2 hm2
    simp(config:=KF) (disch:=omega)only[bZ,retI,↓reduceIte,Nat.reduceEqDiff,reduceCtorEq]
    have hnm32:nm.size≤32:=by
     unfold eE hZ at c1
     simp only[Bool.and_eq_true,decide_eq_true_eq]at c1
     exact c1.1.2.2
    have hnum:(S.num:Int)=(a:Int):=by rw[hS]
    have hsk:=h2.ins (y:=SL.mk (st.boxes.length+2) (st.boxes.length+1) st.boxes.length 0 (.lit (.slice none 0 0)) [] S) (by rw[hnum];exact hx) (by rw[hS];exact⟨ha64,by simp,c6,hnm32,hlife,fun _ q=>by cases q⟩)
    rw[hnum]at hsk
    have hkp:Kp st s2 F:=(Kp.wide hks fun _ q=>by cases q).trans (ho2.kp (F:=[sid]) fun _ q=>q) fun b hb=>.inl (by
     simp only[List.mem_singleton]at hb
     subst hb
     exact h5 _ ((bL h1.smp.nd).2 (.inr (.inl rfl))))
    obtain⟨F',n1,n2⟩:=NP.of (st:=st) (F:=F) (R':={R with socks:=insS S R.socks}) ⟨⟨_,_,_,hadd.1,hsk.mono (Nat.le_succ k) (Nat.le_refl _),(h3.ins hx ⟨rfl,rfl⟩).mono (Nat.le_succ k),h4,fun _ q=>q⟩,hlt⟩ hkp (fun b hb=>(hadd.2 b hb).imp (h5 b) id)
    rw[hS]at n1
    exact hQ _ _ ⟨F',rfl,n1⟩
 simp(config:=KF) (disch:=omega)only[bZ,id,↓reduceIte,Nat.reduceEqDiff,Nat.reduceAdd,reduceCtorEq]
 refine ag rfl e_f26 (cP h1) rfl ?_
 simp(config:=KF) (disch:=omega)only[bZ,aa,id,↓reduceIte,Nat.reduceEqDiff,Nat.reduceAdd,Nat.reduceLeDiff,reduceCtorEq]
 refine ag rfl e_f27 hvp rfl ?_
 cases hva:eE nm port with
 | false =>
   simp(config:=KF) (disch:=omega)only[bZ,gB,retI,AI.dst,unA,↓reduceIte,Nat.reduceEqDiff,reduceCtorEq]
   exact hbad (fun q=>by rw[hva]at q;cases q.1)
 | true =>
   (repeat' (first|omega|(simp(config:=KF) (disch:=omega)only[bZ,gB,retI,AI.dst,unA,↓reduceIte,Nat.reduceEqDiff,reduceCtorEq])|refine aA (fun h=>?_) (fun h=>?_)|refine bj (fun h=>?_) (fun h=>?_)|refine cn (fun h=>?_) (fun h=>?_)|exact hgood ⟨hva,by omega,by omega,by omega,by omega,by omega⟩|exact hbad (fun q=>by omega)))
end Go.Fx.YtgmeefljgbaanaaFx

namespace Go.Fx.YtgmeefljgbaanaaFx
open Go Go.Fx
attribute [local irreducible] aC runI aG aH

set_option maxRecDepth 100000
set_option maxHeartbeats 4000000

theorem dv_conv{st:St}{v:AV}{p:List UInt8}(h:DV v st p){K:AV→Prop}(hK:K (.lit (.string (str p)))):(jr st .bs v).wp K:=by
 rcases h with⟨rfl,rfl⟩|rfl|⟨id,cap,r,rfl,hg,h1,h2⟩
 ·exact hK
 ·rw[conv_sl];exact hK
 ·have:jr st .bs (.bs id 1 0 p.length cap)= .req true (.ok (.lit (.string (str p)))):=by
   simp only[jr,if_true,cR,hg,jL,qx,Nat.mul_one,Nat.zero_add,List.drop_zero]
   rw[qC (by simp[bq]),show(BB p++r).take p.length=BB p from List.take_left' (bq p)]
   simp[bq,strOf_BB,Res.ofOpt,Res.bind]
  rw[this]
  exact⟨rfl,hK⟩
theorem ba_beq(a b:ByteArray):(a.toList ==b.toList)=decide (a=b):=by
 rw[ByteArray.toList_eq,ByteArray.toList_eq]
 refine Bool.eq_iff_iff.2 ?_
 simp only[beq_iff_eq,decide_eq_true_eq]
 constructor
 ·intro h
  cases a;cases b
  simp only[ByteArray.mk.injEq]
  exact Array.ext' h
 ·rintro rfl;rfl
theorem ad_eql(a b:ByteArray)(p q:Int):binI (.agg (.field 0 1 .str (.field 1 1 .int .tt))) .eql (.agg [.lit (.string a),.lit (.int .i64 p)]) (.agg [.lit (.string b),.lit (.int .i64 q)])= .ok (.lit (.bool (decide (a=b∧p=q)))):=by
 have h:((a.toList ==b.toList) && ((p ==q) && true))=decide (a=b∧p=q):=by
  rw[ba_beq]
  exact Bool.eq_iff_iff.2 (by simp)
 rw[←h]
 rfl
def eqRc(a b:Rc):Bool:=decide (a.task=b.task∧(a.nm=b.nm∧a.port=b.port)∧a.data=b.data∧a.at_=b.at_∧a.cut=b.cut∧a.err=b.err)
theorem jP{st:St}{v w:AV}{a b:Rc}(hv:DV v st a.data)(hw:DV w st b.data) :
  az Go.Proofs.Try.prog n_f32 [rcAV a.task a.nm a.port v a.at_ a.cut a.err,rcAV b.task b.nm b.port w b.at_ b.cut b.err] st (.lit (.bool (eqRc a b))):=by
 obtain⟨v1,v2,v3,v4,v5,v6,v7,v8⟩:=hv.facts
 obtain⟨w1,w2,w3,w4,w5,w6,w7,w8⟩:=hw.facts
 refine al hmix k_f32 rfl rfl fun Q hQ=>?_
 unfold aFun c_f32 rcAV
 have hae:=ad_eql a.nm b.nm a.port b.port
 unfold eqRc at hQ
 have hfin:∀x,x=decide (a.task=b.task∧(a.nm=b.nm∧a.port=b.port)∧a.data=b.data∧a.at_=b.at_∧a.cut=b.cut∧a.err=b.err)→∀st',Q (.lit (.bool x)) st':=fun x hx st'=>by rw[hx];exact hQ st'
 simp(config:=KF) (disch:=omega)only[bZ,AI.dst,addA,aa,↓reduceIte,Nat.reduceEqDiff,Nat.reduceAdd,reduceCtorEq,v2,v4,w2,w4]
 refine bj (fun h1=>?_) (fun h1=>?_)
 ·simp(config:=KF) (disch:=omega)only[bZ,AI.dst,addA,aa,↓reduceIte,Nat.reduceEqDiff,Nat.reduceAdd,Nat.reduceLeDiff,hae]
  refine bj (fun h2=>?_) (fun h2=>?_)
  ·simp(config:=KF) (disch:=omega)only[bZ,AI.dst,o_conv,addA,aa,↓reduceIte,Nat.reduceEqDiff,Nat.reduceAdd,v1]
   refine dv_conv hv ?_
   simp(config:=KF) (disch:=omega)only[bZ,AI.dst,o_conv,addA,aa,↓reduceIte,Nat.reduceEqDiff,Nat.reduceAdd,w1]
   refine dv_conv hw ?_
   simp(config:=KF) (disch:=omega)only[bZ,AI.dst,↓reduceIte,Nat.reduceEqDiff,str_eql]
   have hbe:binI .bool .eql (.lit (.bool a.cut)) (.lit (.bool b.cut))= .ok (.lit (.bool (decide (a.cut=b.cut)))):=by
    cases a.cut<;>cases b.cut<;>rfl
   refine bj (fun h3=>?_) (fun h3=>?_)
   ·simp(config:=KF) (disch:=omega)only[bZ,AI.dst,addA,aa,↓reduceIte,Nat.reduceEqDiff,Nat.reduceAdd]
    refine bj (fun h4=>?_) (fun h4=>?_)
    ·simp(config:=KF) (disch:=omega)only[bZ,AI.dst,addA,aa,↓reduceIte,Nat.reduceEqDiff,hbe]
     refine bj (fun h5=>?_) (fun h5=>?_)
     ·simp(config:=KF) (disch:=omega)only[bZ,retI,AI.dst,addA,aa,↓reduceIte,Nat.reduceEqDiff]
      refine hfin _ ?_ _
      have h4':a.at_=b.at_:=by omega
      simp only[h1,h2,h3,h4',h5,true_and]
     ·simp(config:=KF) (disch:=omega)only[bZ,retI,AI.dst,↓reduceIte,Nat.reduceEqDiff]
      exact hfin _ (by simp[h5]) _
    ·simp(config:=KF) (disch:=omega)only[bZ,retI,AI.dst,↓reduceIte,Nat.reduceEqDiff]
     refine hfin _ (decide_eq_false fun q=>h4 ?_).symm _
     rw[q.2.2.2.1]
   ·simp(config:=KF) (disch:=omega)only[bZ,retI,AI.dst,↓reduceIte,Nat.reduceEqDiff]
    exact hfin _ (by simp[h3]) _
  ·simp(config:=KF) (disch:=omega)only[bZ,retI,AI.dst,↓reduceIte,Nat.reduceEqDiff]
   exact hfin _ (by simp[h2]) _
 ·simp(config:=KF) (disch:=omega)only[bZ,retI,AI.dst,↓reduceIte,Nat.reduceEqDiff]
  exact hfin _ (by simp[h1]) _

def fS:List Rc→List Rc→Bool
 | [],[]=>true
 |a::r,b::s=>eqRc a b && fS r s
 |_,_=>false
theorem lD(a:Rc):eqRc a a=true:=by unfold eqRc;simp
theorem jQ:∀l:List Rc,fS l l=true
 | []=>rfl
 |a::r=>by unfold fS;rw[lD,jQ r];rfl
theorem RcsV.len{P:Nat→Prop}{st:St}:∀{es:List AV} {l:List Rc},RcsV P st es l→es.length=l.length
 | [],[],_=>rfl
 |_::_,_::_,h=>by rw[List.length_cons,List.length_cons,RcsV.len h.2]
 | [],_::_,h=>h.elim
 |_::_,[],h=>h.elim
theorem RcsV.get{P:Nat→Prop}{st:St}:∀{es:List AV} {l:List Rc},RcsV P st es l→∀(i:Nat) (hi:i<l.length),∃e,es[i]?=some e∧RcV P st e l[i]
 |e::es,r::rs,h,0,_=>⟨e,rfl,h.1⟩
 | e :: es, r :: rs, h, i + 1, hi => by
   obtain⟨e',h1,h2⟩:=RcsV.get h.2 i (by simpa using hi)
   exact⟨e',by simpa using h1,h2⟩
 | [],[],_,i,hi=>absurd hi (Nat.not_lt_zero _)
 | [],_::_,h,_,_=>h.elim
 |_::_,[],h,_,_=>h.elim
theorem AllV.facts{P:Nat→Prop}{v:AV}{st:St}{l:List Rc}(h:AllV P false v st l):v.dis=v∧v.own1=v∧v.own2=v∧v.solid1=true∧v.noL=true∧v.cells= [v]∧(∀s,kill s v=v)∧∀st',lenI .sl st' v= .ok (.lit (.int .i64 (l.length:Nat))):=by
 rcases h with⟨rfl,rfl⟩|⟨es,rfl,h⟩
 ·exact⟨rfl,rfl,rfl,rfl,rfl,rfl,fun _=>rfl,fun _=>rfl⟩
 ·exact⟨rfl,rfl,rfl,rfl,rfl,rfl,fun _=>rfl,fun _=>by rw[ew,h.len]⟩
theorem RcV.dis{P:Nat→Prop}{st:St}{e:AV}{r:Rc}(h:RcV P st e r):e.dis=e∧e.cells.length=7∧e.noL=true:=by
 obtain⟨w,rfl,h1,h2⟩:=h
 obtain⟨w1,w2,w3,w4,w5,w6,w7,w8⟩:=h1.facts
 unfold rcAV
 refine⟨?_,rfl,rfl⟩
 rw[am]
 simp[ai,w2]
theorem pK{st:St}{P P':Nat→Prop}{v w:AV}{a b:List Rc}(hv:AllV P false v st a)(hw:AllV P' false w st b)(ha:a.length<100000)(hb:b.length<100000) :
  az Go.Proofs.Try.prog n_f46 [v,w] st (.lit (.bool (fS a b))):=by
 obtain⟨v1,v2,v3,v4,v5,v6,v7,v8⟩:=hv.facts
 obtain⟨w1,w2,w3,w4,w5,w6,w7,w8⟩:=hw.facts
 refine al hmix k_f46 rfl rfl fun Q hQ=>?_
 unfold aFun c_f46
 have hlen:a.length≠b.length→fS a b=false:=by
  clear hQ hv hw v8 w8 ha hb
  induction a generalizing b with
  |nil=>cases b<;>simp[fS]
  | cons x r ih => cases b with
    |nil=>simp[fS]
    |cons y s=>intro h;unfold fS;rw[ih (by simpa using h),Bool.and_false]
 simp(config:=KF) (disch:=omega)only[bZ,↓reduceIte,Nat.reduceEqDiff,reduceCtorEq,v1,w1,v8,w8]
 refine aA (fun h=>?_) (fun h=>?_)
 ·rw[hlen (by omega)]at hQ
  simp(config:=KF) (disch:=omega)only[bZ,retI,↓reduceIte,Nat.reduceEqDiff,reduceCtorEq]
  exact hQ _
 have hl:a.length=b.length:=by omega
 simp(config:=KF) (disch:=omega)only[bZ,↓reduceIte,Nat.reduceEqDiff,reduceCtorEq]
 rw[f46_13w]
 refine bB (A:=Nat) (fun i=>a.length-i) (fun i=>⟨[(0,v),(1,w),(5,.lit (.int .i64 (i:Nat)))],[]⟩) (fun _=>st)
  (fun i=>i≤a.length∧fS (a.drop i) (b.drop i)=fS a b) 0 ⟨Nat.zero_le _,rfl⟩ (by simp(config:=KF) (disch:=omega)only[bZ,↓reduceIte,Nat.reduceEqDiff,reduceCtorEq];exact Sf.le_refl _) rfl fun i hi K hK hKe hKr=>?_
 obtain⟨i1,i2⟩:=hi
 simp(config:=KF) (disch:=omega)only[bZ,↓reduceIte,Nat.reduceEqDiff,reduceCtorEq,v1,v8]
 refine aA (fun c=>?_) (fun c=>?_)
 ·have hia:i<a.length:=by omega
  have hib:i<b.length:=by omega
  rcases hv with⟨_,e⟩|⟨es,rfl,hes⟩
  ·rw[e]at hia;cases hia
  rcases hw with⟨_,e⟩|⟨fs,rfl,hfs⟩
  ·rw[e]at hib;cases hib
  obtain⟨x,hx,hxr⟩:=hes.get i hia
  obtain⟨y,hy,hyr⟩:=hfs.get i hib
  have hgx:es.getD i .any=x:=by rw[List.getD_eq_getElem?_getD,hx];rfl
  have hgy:fs.getD i .any=y:=by rw[List.getD_eq_getElem?_getD,hy];rfl
  have hel:=hes.len
  have hfl:=hfs.len
  obtain⟨d1,d2,d3⟩:=hxr.dis
  obtain⟨e1,e2,e3⟩:=hyr.dis
  obtain⟨xv,rfl,xd,_⟩:=hxr
  obtain⟨yv,rfl,yd,_⟩:=hyr
  obtain⟨a1,a2,a3,a4,a5,a6,a7,a8⟩:=xd.facts
  obtain⟨b1,b2,b3,b4,b5,b6,b7,b8⟩:=yd.facts
  have heq:=jP (a:=a[i]) (b:=b[i]) xd yd
  unfold rcAV at hgx hgy heq
  simp(config:=KF) (disch:=omega)only[bZ,eO,ixSV,aa,id,↓reduceIte,Nat.reduceEqDiff,Nat.reduceAdd,Nat.reduceLeDiff,reduceCtorEq,hgx,hgy,hel,hfl,a2,b2]
  refine ag (vs:=_) (by simp[a1,a2,b1,b2,am,ai]) e_f32 heq (by simp[a5,b5,ao]) ?_
  have hda:a.drop i=a[i]::a.drop (i+1):=List.drop_eq_getElem_cons hia
  have hdb:b.drop i=b[i]::b.drop (i+1):=List.drop_eq_getElem_cons hib
  rw[hda,hdb,fS]at i2
  cases hc:eqRc a[i] b[i]with
  | true =>
    rw[hc,Bool.true_and]at i2
    simp(config:=KF) (disch:=omega)only[bZ,unA,↓reduceIte,Nat.reduceEqDiff,reduceCtorEq]
    exact hK (i+1) _ ⟨by omega,i2⟩ (by omega) (Sf.le_refl _)
  | false =>
    rw[hc,Bool.false_and]at i2
    rw[←i2]at hQ
    simp(config:=KF) (disch:=omega)only[bZ,unA,↓reduceIte,Nat.reduceEqDiff,reduceCtorEq]
    refine hKr _ _ ?_
    simp(config:=KF) (disch:=omega)only[bZ,retI,↓reduceIte]
    exact hQ _
 ·have hia:i=a.length:=by omega
  simp(config:=KF) (disch:=omega)only[bZ,↓reduceIte,Nat.reduceEqDiff,reduceCtorEq]
  refine hKe _ _ _ ?_
  simp(config:=KF) (disch:=omega)only[bZ,retI,↓reduceIte]
  rw[←i2,List.drop_of_length_le (by omega),List.drop_of_length_le (by omega)]at hQ
  exact hQ _
end Go.Fx.YtgmeefljgbaanaaFx

