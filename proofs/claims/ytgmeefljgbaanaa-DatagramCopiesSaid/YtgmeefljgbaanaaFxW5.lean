/- What the functions that the statement reaches compute: part 5. -/
import Derived.Test.YtgmeefljgbaanaaFxW4
namespace Go.Fx.YtgmeefljgbaanaaFx
open Go Go.Fx
attribute [local irreducible] aC runI aG aH

set_option maxRecDepth 100000
set_option maxHeartbeats 4000000

structure SL where
 s:Nat
 w:Nat
 m:Nat
 g:Nat
 qv:AV
 L:Qu
 S:Sk
structure WE where
 sock:Nat
 most:Int
 tick:Nat
def SL.ids(x:SL):List Nat:=[x.s,x.w,x.m]++ah x.qv
def SL.is(x:SL)(st:St):Prop:=SkIs st x.s x.w x.m x.g x.qv x.L x.S
def slAV(x:SL):AV:=.ptr x.s 0
def weAV(w:WE):AV:=.agg [.lit (.int .i64 (w.sock:Nat)),.lit (.int .i64 w.most),.lit (.int .u64 (w.tick:Nat))]
theorem weAV_dis(w:WE):(weAV w).dis=weAV w:=rfl

structure NetIs (st:St) (n sid wid now:Nat) (M:List (Int×SL)) (W:List (Int×WE)):Prop where
 get:st.get n=some [.lit (.int .u64 (now:Nat)),.map sid,.map wid]
 smp:MapIs st sid .i64 slAV M
 wmp:MapIs st wid .i64 weAV W
 sub:∀(i:Int) x,aj i M=some x→x.is st
 sw:sid≠wid
 sep:∃o:Nat→Int,(∀(i:Int) x,aj i M=some x→0≤i∧∀b∈x.ids,o b=i)∧o n= -1∧o sid= -1∧o wid= -1
def ck(n sid wid:Nat)(M:List (Int×SL)):List Nat:=n::sid::wid::M.flatMap fun p=>p.2.ids
theorem bL{n sid wid b:Nat}{M:List (Int×SL)}(hn:(aV M).Nodup):b∈ck n sid wid M↔b=n∨b=sid∨b=wid∨∃(i:Int) (x:SL),aj i M=some x∧b∈x.ids:=by
 unfold ck
 simp only[List.mem_cons,List.mem_flatMap]
 constructor
 ·rintro(e|e|e|⟨⟨i,x⟩,hx,hb⟩)
  ·exact .inl e
  ·exact .inr (.inl e)
  ·exact .inr (.inr (.inl e))
  ·exact .inr (.inr (.inr ⟨i,x,cp hn hx,hb⟩))
 ·rintro(e|e|e|⟨i,x,hi,hb⟩)
  ·exact .inl e
  ·exact .inr (.inl e)
  ·exact .inr (.inr (.inl e))
  ·exact .inr (.inr (.inr ⟨(i,x),fA hi,hb⟩))

theorem enc_same{i:Int}{x y:SL}:∀{M:List (Int×SL)},aj i M=some x→y.s=x.s→encM .i64 slAV (updP i y M)=encM .i64 slAV M
 | [],h,_=>by cases h
 | (k, z) :: r, h, he => by
   unfold aj at h
   unfold updP
   by_cases e:i=k
   ·rw[if_pos e]at h ⊢
    cases h
    subst e
    unfold encM encE
    simp only[List.map_cons,slAV,he]
   ·rw[if_neg e]at h ⊢
    have:=enc_same h he
    unfold encM at this ⊢
    rw[List.map_cons,List.map_cons,this]
theorem lI{i:Int}{x y:SL}{M:List (Int×SL)}(h:aj i M=some x):aV (updP i y M)=aV M:=by
 rw[nV,h];rfl
theorem len_same{i:Int}{x y:SL}{M:List (Int×SL)}(h:aj i M=some x):(updP i y M).length=M.length:=by
 rw[ez,h];rfl
theorem mapis_same{st:St}{id:Nat}{i:Int}{x y:SL}{M:List (Int×SL)}(h:MapIs st id .i64 slAV M)(hi:aj i M=some x)(he:y.s=x.s):MapIs st id .i64 slAV (updP i y M) :=
 ⟨by rw[enc_same hi he];exact h.get,by rw[lI hi];exact h.nd,by rw[len_same hi];exact h.bl,h.bn,h.bc⟩

section
variable {st st':St} {n sid wid now:Nat} {M:List (Int×SL)} {W:List (Int×WE)}
theorem SL.at{x:SL}(hx:x.is st)(hb:∀b∈x.ids,st'.boxes[b]?=st.boxes[b]?):x.is st':=SkIs.at hx hb
theorem SL.lts{x:SL}(hx:x.is st):∀b∈x.ids,b<st.boxes.length:=SkIs.lts hx
theorem NetIs.lts(hh:NetIs st n sid wid now M W):∀b∈ck n sid wid M,b<st.boxes.length:=by
 intro b hb
 rcases(bL hh.smp.nd).1 hb with rfl|rfl|rfl|⟨i,x,hi,hb⟩
 ·exact bI hh.get
 ·exact hh.smp.lt
 ·exact hh.wmp.lt
 ·exact SL.lts (hh.sub i x hi) b hb
theorem NetIs.ins(hh:NetIs st n sid wid now M W){i:Int}{x:SL}(hi:aj i M=some x):∀b∈x.ids,b∈ck n sid wid M:=fun b hb=>(bL hh.smp.nd).2 (.inr (.inr (.inr ⟨i,x,hi,hb⟩)))
theorem NetIs.ne3(hh:NetIs st n sid wid now M W):sid≠n∧wid≠n∧sid≠wid:=⟨hh.smp.ne hh.get,hh.wmp.ne hh.get,hh.sw⟩
theorem NetIs.ninx(hh:NetIs st n sid wid now M W){i:Int}{x:SL}(hi:aj i M=some x):n ∉ x.ids∧sid ∉ x.ids∧wid ∉ x.ids:=by
 obtain⟨o,o1,o2,o3,o4⟩:=hh.sep
 obtain⟨h0,h1⟩:=o1 i x hi
 refine⟨fun e=>?_,fun e=>?_,fun e=>?_⟩<;>have:=h1 _ e<;>omega
theorem NetIs.at(hh:NetIs st n sid wid now M W)(hat:∀b∈ck n sid wid M,st'.boxes[b]?=st.boxes[b]?):NetIs st' n sid wid now M W:=by
 have hm:=fun b=>(bL (n:=n) (sid:=sid) (wid:=wid) (b:=b) hh.smp.nd).2
 exact⟨(bJ (hat n (hm _ (.inl rfl)))).trans hh.get,hh.smp.at (hat sid (hm _ (.inr (.inl rfl)))),hh.wmp.at (hat wid (hm _ (.inr (.inr (.inl rfl))))),fun i x hi=>SL.at (hh.sub i x hi) fun b hb=>hat b (hh.ins hi b hb),hh.sw,hh.sep⟩
theorem NetIs.kp(hh:NetIs st n sid wid now M W){F:List Nat}(hk:Kp st st' F)(hf:∀b∈ck n sid wid M,b ∉ F):NetIs st' n sid wid now M W :=
 hh.at fun b hb=>hk.2 b (hh.lts b hb) (hf b hb)

theorem NetIs.setSock(hh:NetIs st n sid wid now M W){i:Int}{x y:SL}(hi:aj i M=some x)(hk:Kp st st' x.ids)(hy:y.is st')(hid:∀b∈y.ids,b∈x.ids∨st.boxes.length≤b)(hs:y.s=x.s) :
  NetIs st' n sid wid now (updP i y M) W∧∀b∈ck n sid wid (updP i y M),b∈ck n sid wid M∨st.boxes.length≤b:=by
 obtain⟨o,o1,o2,o3,o4⟩:=hh.sep
 have hlt:=hh.lts
 have hm:=fun b=>(bL (n:=n) (sid:=sid) (wid:=wid) (b:=b) hh.smp.nd).2
 obtain⟨i0,hox⟩:=o1 i x hi
 have hno:∀b,o b≠i→b<st.boxes.length→st'.boxes[b]?=st.boxes[b]?:=fun b hb hl=>hk.2 b hl fun e=>hb (hox b e)
 have hln:n<st.boxes.length:=hlt n (hm _ (.inl rfl))
 have hls:sid<st.boxes.length:=hlt sid (hm _ (.inr (.inl rfl)))
 have hlw:wid<st.boxes.length:=hlt wid (hm _ (.inr (.inr (.inl rfl))))
 have hnd:(aV (updP i y M)).Nodup:=by rw[lI hi];exact hh.smp.nd
 have hlook:∀(j:Int) z,aj j (updP i y M)=some z→(j=i∧z=y)∨(j≠i∧aj j M=some z):=fun j z hj=>by
  rw[aZ]at hj
  split at hj
  ·rename_i e;exact .inl ⟨e,(Option.some.inj hj).symm⟩
  ·rename_i e;exact .inr ⟨e,hj⟩
 refine⟨⟨(bJ (hno n (by omega) hln)).trans hh.get,mapis_same (hh.smp.at (hno sid (by omega) hls)) hi hs,hh.wmp.at (hno wid (by omega) hlw),fun j z hj=>?_,hh.sw,fun b=>if b<st.boxes.length then o b else i,fun j z hj=>?_,?_,?_,?_⟩,fun b hb=>?_⟩
 ·rcases hlook j z hj with⟨rfl,rfl⟩|⟨hne,hj⟩
  ·exact hy
  ·refine SL.at (hh.sub j z hj) fun b hb=>hno b ?_ (hlt b (hh.ins hj b hb))
   rw[(o1 j z hj).2 b hb];exact hne
 ·rcases hlook j z hj with⟨rfl,rfl⟩|⟨hne,hj⟩
  ·refine⟨i0,fun b hb=>?_⟩
   rcases hid b hb with q|q
   ·exact(if_pos (hlt b (hh.ins hi b q))).trans (hox b q)
   ·exact if_neg (by omega)
  ·refine⟨(o1 j z hj).1,fun b hb=>?_⟩
   exact(if_pos (hlt b (hh.ins hj b hb))).trans ((o1 j z hj).2 b hb)
 ·exact(if_pos hln).trans o2
 ·exact(if_pos hls).trans o3
 ·exact(if_pos hlw).trans o4
 ·rcases(bL hnd).1 hb with e|e|e|⟨j,z,hj,hbz⟩
  ·exact .inl (hm _ (.inl e))
  ·exact .inl (hm _ (.inr (.inl e)))
  ·exact .inl (hm _ (.inr (.inr (.inl e))))
  ·rcases hlook j z hj with⟨rfl,rfl⟩|⟨hne,hj⟩
   ·rcases hid b hbz with q|q
    ·exact .inl (hh.ins hi b q)
    ·exact .inr q
   ·exact .inl (hh.ins hj b hbz)

theorem NetIs.setMap(hh:NetIs st n sid wid now M W){W':List (Int×WE)}(ho:Oth st st' [wid])(hm:MapIs st' wid .i64 weAV W'):NetIs st' n sid wid now M W':=by
 obtain⟨e1,e2,e3⟩:=hh.ne3
 have hno:∀b,b≠wid→st'.boxes[b]?=st.boxes[b]?:=fun b hb=>ho.2 b (by simpa using hb)
 exact⟨(bJ (hno n (Ne.symm e2))).trans hh.get,hh.smp.at (hno sid e3),hm,fun i x hi=>SL.at (hh.sub i x hi) fun b hb=>hno b fun e=>(hh.ninx hi).2.2 (e▸ hb),hh.sw,hh.sep⟩
theorem NetIs.setNow(hh:NetIs st n sid wid now M W)(now':Nat):NetIs (st.set n [.lit (.int .u64 (now':Nat)),.map sid,.map wid]) n sid wid now' M W:=by
 obtain⟨e1,e2,e3⟩:=hh.ne3
 exact⟨aY (bI hh.get),hh.smp.set e1,hh.wmp.set e2,fun i x hi=>SL.at (hh.sub i x hi) fun b hb=>cO fun e=>(hh.ninx hi).1 (e▸ hb),hh.sw,hh.sep⟩
theorem NetIs.add(hh:NetIs st n sid wid now M W){i:Int}(hi:0≤i)(hno:aj i M=none){y:SL}{st1:St}(hk:Kp st st1 [])(hy:y.is st1)(hid:∀b∈y.ids,st.boxes.length≤b)(ho:Oth st1 st' [sid])(hm:MapIs st' sid .i64 slAV (updP i y M)) :
  NetIs st' n sid wid now (updP i y M) W∧∀b∈ck n sid wid (updP i y M),b∈ck n sid wid M∨st.boxes.length≤b:=by
 obtain⟨o,o1,o2,o3,o4⟩:=hh.sep
 obtain⟨e1,e2,e3⟩:=hh.ne3
 have hlt:=hh.lts
 have hmm:=fun b=>(bL (n:=n) (sid:=sid) (wid:=wid) (b:=b) hh.smp.nd).2
 have hln:n<st.boxes.length:=hlt n (hmm _ (.inl rfl))
 have hls:sid<st.boxes.length:=hlt sid (hmm _ (.inr (.inl rfl)))
 have hlw:wid<st.boxes.length:=hlt wid (hmm _ (.inr (.inr (.inl rfl))))
 have hat:∀b,b<st.boxes.length→b≠sid→st'.boxes[b]?=st.boxes[b]?:=fun b hb hne=>(ho.2 b (by simpa using hne)).trans (hk.2 b hb (by simp))
 have hlook:∀(j:Int) z,aj j (updP i y M)=some z→(j=i∧z=y)∨(j≠i∧aj j M=some z):=fun j z hj=>by
  rw[aZ]at hj
  split at hj
  ·rename_i e;exact .inl ⟨e,(Option.some.inj hj).symm⟩
  ·rename_i e;exact .inr ⟨e,hj⟩
 refine⟨⟨(bJ (hat n hln (Ne.symm e1))).trans hh.get,hm,hh.wmp.at (hat wid hlw (Ne.symm e3)),fun j z hj=>?_,hh.sw,fun b=>if b<st.boxes.length then o b else i,fun j z hj=>?_,?_,?_,?_⟩,fun b hb=>?_⟩
 ·rcases hlook j z hj with⟨rfl,rfl⟩|⟨hne,hj⟩
  ·exact SL.at hy fun b hb=>ho.2 b (by simp only[List.mem_singleton];intro e;have:=hid b hb;omega)
  ·exact SL.at (hh.sub j z hj) fun b hb=>hat b (hlt b (hh.ins hj b hb)) fun e=>(hh.ninx hj).2.1 (e▸ hb)
 ·rcases hlook j z hj with⟨rfl,rfl⟩|⟨hne,hj⟩
  ·exact⟨hi,fun b hb=>if_neg (by have:=hid b hb;omega)⟩
  ·refine⟨(o1 j z hj).1,fun b hb=>?_⟩
   exact(if_pos (hlt b (hh.ins hj b hb))).trans ((o1 j z hj).2 b hb)
 ·exact(if_pos hln).trans o2
 ·exact(if_pos hls).trans o3
 ·exact(if_pos hlw).trans o4
 ·rcases(bL hm.nd).1 hb with e|e|e|⟨j,z,hj,hbz⟩
  ·exact .inl (hmm _ (.inl e))
  ·exact .inl (hmm _ (.inr (.inl e)))
  ·exact .inl (hmm _ (.inr (.inr (.inl e))))
  ·rcases hlook j z hj with⟨rfl,rfl⟩|⟨hne,hj⟩
   ·exact .inr (hid b hbz)
   ·exact .inl (hh.ins hj b hbz)
theorem NetIs.del(hh:NetIs st n sid wid now M W){i:Int}(ho:Oth st st' [sid])(hm:MapIs st' sid .i64 slAV (delP i M)) :
  NetIs st' n sid wid now (delP i M) W∧∀b∈ck n sid wid (delP i M),b∈ck n sid wid M:=by
 obtain⟨o,o1,o2,o3,o4⟩:=hh.sep
 obtain⟨e1,e2,e3⟩:=hh.ne3
 have hat:∀b,b≠sid→st'.boxes[b]?=st.boxes[b]?:=fun b hne=>ho.2 b (by simpa using hne)
 have hlook:∀(j:Int) z,aj j (delP i M)=some z→aj j M=some z:=fun j z hj=>by
  rw[ey _ _ hh.smp.nd]at hj
  split at hj
  ·cases hj
  ·exact hj
 refine⟨⟨(bJ (hat n (Ne.symm e1))).trans hh.get,hm,hh.wmp.at (hat wid (Ne.symm e3)),fun j z hj=>SL.at (hh.sub j z (hlook j z hj)) fun b hb=>hat b fun e=>(hh.ninx (hlook j z hj)).2.1 (e▸ hb),hh.sw,o,fun j z hj=>o1 j z (hlook j z hj),o2,o3,o4⟩,fun b hb=>?_⟩
 rcases(bL hm.nd).1 hb with e|e|e|⟨j,z,hj,hbz⟩
 ·exact(bL hh.smp.nd).2 (.inl e)
 ·exact(bL hh.smp.nd).2 (.inr (.inl e))
 ·exact(bL hh.smp.nd).2 (.inr (.inr (.inl e)))
 ·exact hh.ins (hlook j z hj) b hbz

theorem cP(hh:NetIs st n sid wid now M W):az Go.Proofs.Try.prog n_f26 [.ptr n 0] st (.lit (.bool false)):=by
 have hg:=hh.get
 refine al hmix k_f26 rfl rfl fun Q hQ=>?_
 unfold aFun c_f26
 simp(config:=KF) (disch:=omega)only[bZ,retI,AI.dst,au,bE,aU,addA,aa,↓reduceIte,Nat.reduceEqDiff,reduceCtorEq,hg]
 exact hQ _
theorem dP(hh:NetIs st n sid wid now M W)(i:Int):cA (.int .i64) (.lit (.pointer none)) false st (.map sid) (.lit (.int .i64 i))= .ok (match aj i M with|some x=>.ptr x.s 0|none=>.lit (.pointer none)):=by
 rw[da hh.smp]
 cases aj i M<;>rfl
end
end Go.Fx.YtgmeefljgbaanaaFx

namespace Go.Fx.YtgmeefljgbaanaaFx
open Go Go.Fx
attribute [local irreducible] aC runI aG aH

set_option maxRecDepth 100000
set_option maxHeartbeats 4000000

structure Wt where
 task:Nat
 sock:Nat
 most:Int
structure NR where
 now:Nat
 socks:List Sk
 ws:List Wt
structure Rc where
 task:Int
 nm:ByteArray
 port:Int
 data:List UInt8
 at_:Nat
 cut:Bool
 err:Int
def rc0:Rc:=⟨0,⟨#[]⟩,0,[],0,false,0⟩
def cutR(t:Int)(p:Pk)(most:Int):Rc:=⟨t,p.nm,p.port,p.data.take (cutN most p.data),p.at_,decide (most<(p.data.length:Int)),0⟩

def atS(i:Int):List Sk→Option Sk
 | []=>none
 |S::r=>if(S.num:Int)=i then some S else atS i r
def ofS(nm:ByteArray)(port:Int):List Sk→Option Sk
 | []=>none
 |S::r=>if S.nm=nm∧S.port=port then some S else ofS nm port r
def modS(i:Int)(f:Sk→Sk):List Sk→List Sk
 | []=>[]
 |S::r=>if(S.num:Int)=i then f S::r else S::modS i f r
def delS(i:Int):List Sk→List Sk
 | []=>[]
 |S::r=>if(S.num:Int)=i then r else S::delS i r
def insS(S:Sk)(l:List Sk):List Sk:=l.filter (fun T=>decide (T.num<S.num))++S::l.filter (fun T=>decide (S.num<T.num))
def dG(l:List Sk):Nat→Nat→Nat
 |0,k=>k
 |f+1,k=>if(atS (k:Int) l).isSome then dG l f (k+1)else k
def fstW(i:Int):List Wt→Option (Wt×List Wt)
 | []=>none
 | w :: r => if (w.sock : Int) = i then some (w, r) else match fstW i r with
   |none=>none
   |some (x,s)=>some (x,w::s)
def delW(t:Int):List Wt→Option (Wt×List Wt)
 | []=>none
 | w :: r => if (w.task : Int) = t then some (w, r) else match delW t r with
   |none=>none
   |some (x,s)=>some (x,w::s)

def dc(nm:ByteArray)(port packets bytes pol:Int)(life:Nat)(R:NR):NR×Int×Int :=
 if ¬(eE nm port=true∧1≤packets∧packets≤256∧0≤bytes∧bytes≤65536∧(pol=1∨pol=2))then(R,0,2)
 else if(ofS nm port R.socks).isSome then(R,0,11)
 else if 64≤R.socks.length then(R,0,7)
 else({R with socks:=insS ⟨dG R.socks 64 0,nm,port,packets.toNat,bytes.toNat,pol,life,[],0,0⟩ R.socks},(dG R.socks 64 0:Nat),0)
def cy(from_:Int)(nm:ByteArray)(port:Int)(d:List UInt8)(R:NR):NR×List Rc×Int :=
 if eE nm port=false then(R,[],2)
 else if 2048<d.length then(R,[],5)
 else match atS from_ R.socks with
  |none=>(R,[],9)
  | some F => match ofS nm port R.socks with
    |none=>(R,[],0)
    | some T => match fstW (T.num : Nat) R.ws with
      |some (w,rest)=>({R with ws:=rest},[cutR w.task ⟨F.nm,F.port,d,R.now⟩ w.most],0)
      |none=>({R with socks:=modS (T.num:Nat) (getS ⟨F.nm,F.port,d,R.now⟩) R.socks},[],0)
def eF(S:Sk):Sk:={S with q:=S.q.tail}
def ei(t at_ most:Int)(R:NR):NR×Rc×Bool×Int :=
 if t<0∨64≤t∨most<0 then(R,rc0,false,2)
 else match atS at_ R.socks with
  |none=>(R,rc0,false,9)
  | some S => if (delW t R.ws).isSome then (R, rc0, false, 11)
    else match S.q with
     | []=>({R with ws:=R.ws++[⟨t.toNat,S.num,most⟩]},rc0,false,0)
     |p::_=>({R with socks:=modS at_ eF R.socks},cutR t p most,true,0)
def rTry(at_ most:Int)(R:NR):NR×Rc×Int :=
 if most<0 then(R,rc0,2)
 else match atS at_ R.socks with
  |none=>(R,rc0,9)
  | some S => match S.q with
    | []=>(R,rc0,16)
    |p::_=>({R with socks:=modS at_ eF R.socks},cutR 0 p most,0)
def eY(t:Int)(R:NR):NR×Int :=
 if t<0∨64≤t then(R,2)
 else match delW t R.ws with
  |none=>(R,9)
  |some (_,rest)=>({R with ws:=rest},0)
def clRc(w:Wt):Rc:=⟨w.task,⟨#[]⟩,0,[],0,false,14⟩
def eB(at_:Int)(R:NR):NR×List Rc×Int :=
 match atS at_ R.socks with
 |none=>(R,[],9)
 |some _=>({R with socks:=delS at_ R.socks,ws:=R.ws.filter fun w=>decide ((w.sock:Int)≠at_)},(R.ws.filter fun w=>decide ((w.sock:Int)=at_)).map clRc,0)
def cL(to life:Nat):List Pk→Nat→List Pk×Nat
 | [],k=>([],k)
 |p::r,k=>if 0<life∧life≤to-p.at_ then cL to life r (k+1)else(p::r,k)
def advS(to:Nat)(S:Sk):Sk:={S with q:=(cL to S.life S.q 0).1,old:=S.old+(cL to S.life S.q 0).2}
def advN(to:Nat):List Sk→Nat
 | []=>0
 |S::r=>(cL to S.life S.q 0).2+advN to r
def rAdv(to:Int)(R:NR):NR×Int×Int :=
 if to<(R.now:Int)∨to=18446744073709551615 then(R,0,3)
 else({R with now:=to.toNat,socks:=R.socks.map (advS to.toNat)},(advN to.toNat R.socks:Nat),0)

structure SockR (M:List (Int×SL)) (socks:List Sk) (k now:Nat):Prop where
 at_:∀i:Int,(aj i M).map SL.S=atS i socks
 len:M.length=socks.length
 srt:socks.Pairwise fun S T=>S.num<T.num
 ok:∀S∈socks,S.num<64∧S.dr+S.old+S.q.length≤k∧(S.pol=1∨S.pol=2)∧S.nm.size≤32∧S.life<18446744073709551616∧∀p∈S.q,p.data.length≤2048∧p.at_≤now
theorem SockR.mono{M:List (Int×SL)}{socks:List Sk}{k k' now now':Nat}(h:SockR M socks k now)(hk:k≤k')(hn:now≤now'):SockR M socks k' now' :=
 ⟨h.at_,h.len,h.srt,fun S hS=>by
  obtain⟨a,b,c,d,e,f⟩:=h.ok S hS
  exact⟨a,by omega,c,d,e,fun p hp=>⟨(f p hp).1,by have:=(f p hp).2;omega⟩⟩⟩
theorem kN{i:Int}:∀{l:List Sk} {S:Sk},atS i l=some S→S∈l∧(S.num:Int)=i
 | [],_,h=>by cases h
 | T :: r, S, h => by
   unfold atS at h
   split at h
   ·rename_i e;cases h;exact⟨by simp,e⟩
   ·obtain⟨a,b⟩:=kN h;exact⟨List.mem_cons_of_mem _ a,b⟩
theorem iR{i:Int}:∀{l:List Sk},(∀S∈l,(S.num:Int)≠i)→atS i l=none
 | [],_=>rfl
 | T :: r, h => by
   unfold atS
   rw[if_neg (h T (by simp))]
   exact iR fun S hS=>h S (List.mem_cons_of_mem _ hS)
theorem fi{S:Sk}:∀{l:List Sk},l.Pairwise (fun S T=>S.num<T.num)→S∈l→atS (S.num:Int) l=some S
 | [],_,h=>by cases h
 | T :: r, hp, h => by
   obtain⟨h1,h2⟩:=List.pairwise_cons.1 hp
   unfold atS
   rcases List.mem_cons.1 h with e|h
   ·subst e;rw[if_pos rfl]
   ·have:=h1 S h
    rw[if_neg (by omega)]
    exact fi h2 h
theorem qU{i:Int}{f:Sk→Sk}(hf:∀S,(f S).num=S.num)(j:Int):∀l:List Sk,atS j (modS i f l)=if j=i then(atS i l).map f else atS j l
 | []=>by simp[modS,atS]
 | S :: r => by
   unfold modS
   by_cases e:(S.num:Int)=i
   ·rw[if_pos e]
    simp only[atS,hf,e]
    by_cases e2:i=j
    ·subst e2;simp
    ·have:¬j=i:=fun q=>e2 q.symm
     simp[e2,this]
   ·rw[if_neg e]
    simp only[atS,qU hf j r,e,if_false]
    by_cases e2:(S.num:Int)=j
    ·have:¬j=i:=fun q=>e (e2.trans q)
     simp[e2,this]
    ·simp[e2]
theorem ji{i:Int}{f:Sk→Sk}(hf:∀S,(f S).num=S.num):∀l:List Sk,(modS i f l).map Sk.num=l.map Sk.num
 | []=>rfl
 | S :: r => by
   unfold modS
   split
   ·simp[hf]
   ·simp[ji hf r]
theorem fV{l:List Sk}:l.Pairwise (fun S T=>S.num<T.num)↔(l.map Sk.num).Pairwise (· < ·):=by
 rw[List.pairwise_map]
theorem atS_del{i:Int}(j:Int):∀{l:List Sk},l.Pairwise (fun S T=>S.num<T.num)→atS j (delS i l)=if j=i then none else atS j l
 | [],_=>by simp[delS,atS]
 | S :: r, hp => by
   obtain⟨h1,h2⟩:=List.pairwise_cons.1 hp
   unfold delS
   by_cases e:(S.num:Int)=i
   ·rw[if_pos e]
    by_cases e2:j=i
    ·subst e2
     rw[if_pos rfl]
     exact iR fun T hT=>by have:=h1 T hT;omega
    ·rw[if_neg e2]
     conv=>rhs;unfold atS
     rw[if_neg (fun q=>e2 (q.symm.trans e))]
   ·rw[if_neg e]
    simp only[atS,atS_del j h2]
    by_cases e2:(S.num:Int)=j
    ·have:¬j=i:=fun q=>e (e2.trans q)
     simp[e2,this]
    ·simp[e2]
theorem od{i:Int}:∀{l:List Sk},List.Sublist (delS i l) l
 | []=>List.Sublist.refl _
 | S :: r => by
   unfold delS
   split
   ·exact List.sublist_cons_self _ _
   ·exact od.cons_cons _
theorem delS_len{i:Int}:∀{l:List Sk} {S:Sk},atS i l=some S→(delS i l).length+1=l.length
 | [],_,h=>by cases h
 | T :: r, S, h => by
   unfold atS at h
   unfold delS
   split
   ·rfl
   ·rename_i e
    rw[if_neg e]at h
    rw[List.length_cons,delS_len h,List.length_cons]
theorem mem_ins{S T:Sk}{l:List Sk}:T∈insS S l→T=S∨T∈l:=by
 unfold insS
 intro h
 rcases List.mem_append.1 h with h|h
 ·exact .inr (List.mem_filter.1 h).1
 ·rcases List.mem_cons.1 h with h|h
  ·exact .inl h
  ·exact .inr (List.mem_filter.1 h).1
theorem srt_ins{S:Sk}{l:List Sk}(hp:l.Pairwise (fun S T=>S.num<T.num)):(insS S l).Pairwise (fun S T=>S.num<T.num):=by
 unfold insS
 refine List.pairwise_append.2 ⟨hp.filter _,List.pairwise_cons.2 ⟨fun T hT=>by simpa using (List.mem_filter.1 hT).2,hp.filter _⟩,fun A hA B hB=>?_⟩
 have h1:A.num<S.num:=by simpa using (List.mem_filter.1 hA).2
 rcases List.mem_cons.1 hB with h|h
 ·subst h;exact h1
 ·have:S.num<B.num:=by simpa using (List.mem_filter.1 h).2
  omega
theorem atS_ins{S:Sk}{l:List Sk}(hp:l.Pairwise (fun S T=>S.num<T.num))(hno:atS (S.num:Int) l=none)(j:Int):atS j (insS S l)=if j=(S.num:Int)then some S else atS j l:=by
 have hs:=srt_ins (S:=S) hp
 have hin:∀T∈l,T∈insS S l:=fun T hT=>by
  unfold insS
  have hne:T.num≠S.num:=fun e=>by
   have:=fi hp hT
   rw[e,hno]at this;cases this
  rcases Nat.lt_or_gt_of_ne hne with h|h
  ·exact List.mem_append_left _ (List.mem_filter.2 ⟨hT,by simpa using h⟩)
  ·exact List.mem_append_right _ (List.mem_cons_of_mem _ (List.mem_filter.2 ⟨hT,by simpa using h⟩))
 by_cases e:j=(S.num:Int)
 ·subst e
  rw[if_pos rfl]
  exact fi hs (by unfold insS;simp)
 ·rw[if_neg e]
  cases h:atS j l with
  | some T =>
    obtain⟨h1,rfl⟩:=kN h
    exact fi hs (hin T h1)
  | none =>
    refine iR fun T hT q=>?_
    rcases mem_ins hT with rfl|hT
    ·exact e q.symm
    ·have:=fi hp hT
     rw[q,h]at this;cases this
theorem len_ins{S:Sk}:∀{l:List Sk},atS (S.num:Int) l=none→(insS S l).length=l.length+1
 | [],_=>rfl
 | T :: r, h => by
   unfold atS at h
   split at h
   ·cases h
   ·rename_i e
    have ih:=len_ins h
    unfold insS at ih ⊢
    simp only[List.length_append,List.length_cons,List.filter_cons]at ih ⊢
    rcases Nat.lt_or_gt_of_ne (show T.num≠S.num by omega)with q|q
    ·have h2:¬S.num<T.num:=by omega
     simp[q,h2];omega
    ·have h2:¬T.num<S.num:=by omega
     simp[q,h2];omega
theorem ofS_mem{nm:ByteArray}{port:Int}:∀{l:List Sk} {S:Sk},ofS nm port l=some S→S∈l∧S.nm=nm∧S.port=port
 | [],_,h=>by cases h
 | T :: r, S, h => by
   unfold ofS at h
   split at h
   ·rename_i e;cases h;exact⟨by simp,e⟩
   ·obtain⟨a,b⟩:=ofS_mem h;exact⟨List.mem_cons_of_mem _ a,b⟩
theorem pT{nm:ByteArray}{port:Int}:∀{l:List Sk} {S:Sk},l.Pairwise (fun S T=>S.num<T.num)→S∈l→S.nm=nm→S.port=port→(∀T∈l,T.num<S.num→¬(T.nm=nm∧T.port=port))→ofS nm port l=some S
 | [],_,_,h,_,_,_=>by cases h
 | T :: r, S, hp, h, e1, e2, hl => by
   obtain⟨h1,h2⟩:=List.pairwise_cons.1 hp
   unfold ofS
   rcases List.mem_cons.1 h with e|h
   ·subst e;rw[if_pos ⟨e1,e2⟩]
   ·rw[if_neg (hl T (by simp) (h1 S h))]
    exact pT h2 h e1 e2 fun U hU=>hl U (List.mem_cons_of_mem _ hU)
theorem og{nm:ByteArray}{port:Int}:∀{l:List Sk},(∀T∈l,¬(T.nm=nm∧T.port=port))→ofS nm port l=none
 | [],_=>rfl
 | T :: r, h => by
   unfold ofS
   rw[if_neg (h T (by simp))]
   exact og fun U hU=>h U (List.mem_cons_of_mem _ hU)
end Go.Fx.YtgmeefljgbaanaaFx

