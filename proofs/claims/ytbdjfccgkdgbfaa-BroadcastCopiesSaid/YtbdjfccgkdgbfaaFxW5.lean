/- What the functions that the statement reaches compute: part 5. -/
import Derived.Test.YtbdjfccgkdgbfaaFxW4
namespace Go.Fx.YtbdjfccgkdgbfaaFx
open Go Go.Fx
attribute [local irreducible] aC runI az ar

set_option maxRecDepth 100000
set_option maxHeartbeats 4000000

/-- Only some boxes. -/
def St.only (st:St) (G:List Nat):St:=⟨st.boxes.mapIdx fun i b=>if i ∈ G then b else none⟩
theorem only_at (st:St) {G:List Nat} {x:Nat} (h:x ∈ G):(St.only st G).boxes[x]? = st.boxes[x]?:=by
 unfold St.only
 rw [List.getElem?_mapIdx]
 simp only [h,if_true]
 cases st.boxes[x]? <;> rfl
theorem only_sub {st st':St} {G:List Nat} (h:∀ x ∈ G,x < st.boxes.length→st'.boxes[x]? = st.boxes[x]?):St.sub (St.only st G) st':=fun id b hb=>by
 unfold St.only at hb
 rw [List.getElem?_mapIdx] at hb
 obtain ⟨c,hc,hd⟩:=Option.map_eq_some_iff.1 hb
 by_cases hg:id ∈ G
 ·rw [if_pos hg] at hd
  subst hd
  rw [h id hg (List.getElem?_eq_some_iff.1 hc).1]
  exact hc
 ·rw [if_neg hg] at hd
  cases hd

theorem Kp.wide {st st':St} {F F':List Nat} (h:Kp st st' F) (hf:∀ x ∈ F,x ∈ F'):Kp st st' F':=⟨h.1,fun i hi hn=>h.2 i hi fun e=>hn (hf i e)⟩
/-! Subscribers. -/
structure Sb where
 num:Nat
 topic:Int
 room:Nat
 pol:Int
 msgs:List (List UInt8)
 lost:Nat
def enc (ms:List (List UInt8)):List UInt8:=ms.flatMap fun m=>twoB m.length++m
def used:List (List UInt8)→Nat
 | []=>0
 | m::r=>m.length + 2 + used r
theorem mJ:∀ ms,(enc ms).length = used ms
 | []=>rfl
 | m :: r => by
   have:=mJ r
   unfold enc at this ⊢
   rw [List.flatMap_cons,List.length_append,this,List.length_append,kJ,used]; omega
theorem enc_app (a b:List (List UInt8)):enc (a++b) = enc a++enc b:=by simp [enc]
theorem enc_one (m:List UInt8):enc [m] = twoB m.length++m:=by simp [enc]
theorem enc_cons (m:List UInt8) (r:List (List UInt8)):enc (m::r) = twoB m.length++(m++enc r):=by simp [enc]
theorem iM:∀ a b,used (a++b) = used a + used b
 | [],b=>by simp [used]
 | m::r,b=>by simp only [List.cons_append,used,iM r b]; omega
theorem gV:∀ ms:List (List UInt8),2 * ms.length≤used ms
 | []=>Nat.le_refl _
 | m::r=>by have:=gV r; simp only [used,List.length_cons]; omega
def bB (room need:Nat):List (List UInt8)→Nat→List (List UInt8)×Nat
 | [],k=>([],k)
 | m::r,k=>if used (m::r) + need≤room then (m::r,k) else bB room need r (k + 1)
def cf (p:List UInt8) (S:Sb):Sb :=
 if used S.msgs + (p.length + 2)≤S.room then { S with msgs:=S.msgs++[p] }
 else if p.length + 2≤S.room∧S.pol = 1 then { S with msgs:=(bB S.room (p.length + 2) S.msgs S.lost).1++[p],lost:=(bB S.room (p.length + 2) S.msgs S.lost).2 }
 else { S with lost:=S.lost + 1 }

structure SbIs (st:St) (s r b fr:Nat) (S:Sb):Prop where
 get:st.get s = some [.lit (.int .i64 S.topic),.lit (.int .i64 S.pol),.ptr r 0,.lit (.int .i64 (S.msgs.length:Nat)),.lit (.int .i64 (S.lost:Nat))]
 rg:RgIs st r b S.room fr (enc S.msgs)
 ml:∀ m ∈ S.msgs,m.length≤1024
 ne:s≠r∧s≠b
theorem SbIs.at {st st':St} {s r b fr:Nat} {S:Sb} (h:SbIs st s r b fr S) (hb:∀ x ∈ [s,r,b],st'.boxes[x]? = st.boxes[x]?):SbIs st' s r b fr S :=
 ⟨(ck (hb s (by simp))).trans h.get,h.rg.at (hb r (by simp)) (hb b (by simp)),h.ml,h.ne⟩
theorem SbIs.lts {st:St} {s r b fr:Nat} {S:Sb} (h:SbIs st s r b fr S):∀ x ∈ [s,r,b],x < st.boxes.length:=by
 intro x hx
 simp only [List.mem_cons,List.not_mem_nil,or_false] at hx
 rcases hx with rfl | rfl | rfl
 ·exact bw h.get
 ·exact h.rg.ltr
 ·exact h.rg.ltb
theorem SbIs.use {st:St} {s r b fr:Nat} {S:Sb} (h:SbIs st s r b fr S):used S.msgs≤S.room∧S.room≤4096:=by
 have:=h.rg.le
 rw [mJ] at this
 exact ⟨this,h.rg.c0⟩

section
variable {st:St} {s r b fr:Nat} {S:Sb} {v:AV} {p:List UInt8}

theorem lF (h:SbIs st s r b fr S) (hv:DV v st p) (hp:p.length≤100000):aB Go.Proofs.Try.prog n_f63 [.ptr s 0,v] st
  (.tup [.lit (.bool (decide (used S.msgs + (p.length + 2)≤S.room))),.lit (.bool (decide (p.length + 2≤S.room)))]):=by
 have hg:=h.get
 obtain ⟨v1,v2,v3,v4,v5,v6,v7,v8⟩:=hv.facts
 obtain ⟨u1,u2⟩:=h.use
 refine aF hmix k_f63 rfl rfl fun Q hQ=>?_
 unfold aFun c_f63
 have hf:=od h.rg
 rw [mJ] at hf
 have e1:decide ((2:Int) + (p.length:Int)≤((S.room - used S.msgs:Nat):Int)) = decide (used S.msgs + (p.length + 2)≤S.room):=decide_eq_decide.2 (by omega)
 have e2:decide ((2:Int) + (p.length:Int)≤(S.room:Int)) = decide (p.length + 2≤S.room):=decide_eq_decide.2 (by omega)
 simp (config:=KF) (disch:=omega) only [bZ,ce,dH,al,addA,ae,id,↓reduceIte,Nat.reduceEqDiff,reduceCtorEq,ql,hg,v1,v8]
 refine eN rfl e_f74 hf rfl ?_
 simp (config:=KF) (disch:=omega) only [bZ,ce,dH,cx,al,addA,ae,iA,id,↓reduceIte,Nat.reduceEqDiff,reduceCtorEq,hg]
 refine eN rfl e_f75 (pF h.rg) rfl ?_
 simp (config:=KF) (disch:=omega) only [bZ,cx,retI,iA,↓reduceIte,Nat.reduceEqDiff,reduceCtorEq]
 rw [show ((2 + p.length:Nat):Int) = (2:Int) + (p.length:Int) by omega,e1,e2]
 exact hQ _

theorem pG (h:SbIs st s r b fr S) (hv:DV v st p) (hne:∀ x ∈ au v,x ∉ [s,r,b]) (hp:p.length≤1024) (hf:used S.msgs + (p.length + 2)≤S.room) :
  am Go.Proofs.Try.prog n_f76 [.ptr s 0,v] st (fun _ st'=>SbIs st' s r b fr { S with msgs:=S.msgs++[p] }∧Oth st st' [s,r,b]):=by
 have hg:=h.get
 obtain ⟨v1,v2,v3,v4,v5,v6,v7,v8⟩:=hv.facts
 obtain ⟨u1,u2⟩:=h.use
 obtain ⟨n1,n2⟩:=h.ne
 have hlt:=h.lts
 have hnl:=gV S.msgs
 refine ap hmix k_f76 rfl rfl fun Q hQ=>?_
 unfold aFun c_f76
 have hh:[AV.lit (.int .u8 ((p.length:Int) / 256)),AV.lit (.int .u8 (IntKind.u8.wrap (p.length:Int)))] = BB (twoB p.length):=by
  rw [show ((p.length:Int) / 256) = ((p.length / 256:Nat):Int) by omega,w_u8' (by omega),w_u8]
  rfl
 simp (config:=KF) (disch:=omega) only [bZ,qc,al,List.reduceReplicate,addA,gZ,ae,id,cr,↓reduceIte,Nat.reduceEqDiff,Nat.reduceAdd,Nat.reduceLT,reduceCtorEq,n_shr8,IntWalk.u8_in,hg,v1,v8]
 rw [hh]
 have h2:(twoB p.length).length = 2:=kJ _
 have hul:=mJ S.msgs
 refine aq (vs:=[.ptr r 0,.sl false 1 (BB (twoB p.length))]) rfl e_f82 (kM h.rg (DV.sl st _) (by simp [au]) (by omega) (by omega)) rfl fun w st1 hr=>?_
 obtain ⟨rfl,hr1,ho1⟩:=hr
 have hg1:st1.get s = _:=(ho1.get (by simp [n1,n2])).trans hg
 have hv1:DV v st1 p:=hv.at fun x hx=>ho1.2 x fun e=>hne x hx (by simp at e ⊢; exact .inr e)
 simp (config:=KF) (disch:=omega) only [bZ,al,addA,ae,id,↓reduceIte,Nat.reduceEqDiff,reduceCtorEq,hg1,v1]
 refine aq (vs:=[.ptr r 0,v]) (by simp [v1]; rfl) e_f82 (kM hr1 hv1 (fun x hx=>by have:=hne x hx; simp at this; exact ⟨this.2.2,this.2.1⟩) (by omega) (by rw [List.length_append]; omega)) (by simp [v5]; rfl) fun w st2 hr=>?_
 obtain ⟨rfl,hr2,ho2⟩:=hr
 have hg2:st2.get s = _:=(ho2.get (by simp [n1,n2])).trans hg1
 simp (config:=KF) (disch:=omega) only [bZ,bX,retI,al,ah,addA,ae,↓reduceIte,Nat.reduceEqDiff,Nat.reduceAdd,Nat.reduceLeDiff,reduceCtorEq,af,aa,hg2]
 have hl2:s < st2.boxes.length:=bw hg2
 have hrb:r≠s∧b≠s:=⟨Ne.symm n1,Ne.symm n2⟩
 refine hQ _ _ ⟨⟨?_,?_,?_,n1,n2⟩,?_⟩
 ·rw [aG hl2,List.length_append]; rfl
 ·have e:enc (S.msgs++[p]) = enc S.msgs++twoB p.length++p:=by rw [enc_app,enc_one,List.append_assoc]
  rw [e]
  exact hr2.at (bP hrb.1) (bP hrb.2)
 ·intro m hm
  rcases List.mem_append.1 hm with hm | hm
  ·exact h.ml m hm
  ·simp only [List.mem_singleton] at hm; subst hm; exact hp
 ·exact ((ho1.trans ho2).mono (by simp +contextual)).trans (Oth.set _ s _ (by simp))

theorem og (h:SbIs st s r b fr S) {m:List UInt8} {ms:List (List UInt8)} (hm:S.msgs = m::ms) :
  am Go.Proofs.Try.prog n_f50 [.ptr s 0] st (fun w st'=>MB w st' (BB m)∧(∃ fr',SbIs st' s r b fr' { S with msgs:=ms })∧Kp st st' [s,r,b]∧∀ x ∈ au w,st.boxes.length≤x):=by
 have hg:=h.get
 obtain ⟨u1,u2⟩:=h.use
 obtain ⟨n1,n2⟩:=h.ne
 have hlt:=h.lts
 have hml:=h.ml m (by rw [hm]; simp)
 have henc:enc S.msgs = twoB m.length++(m++enc ms):=by rw [hm,enc_cons]
 have hrg:=h.rg
 rw [henc] at hrg
 refine ap hmix k_f50 rfl rfl fun Q hQ=>?_
 unfold aFun c_f50
 simp (config:=KF) (disch:=omega) only [bZ,al,addA,ae,id,↓reduceIte,Nat.reduceEqDiff,reduceCtorEq,hg]
 refine aq rfl e_f66 (mf hrg (m:=2) (by omega)) rfl fun w st1 hr=>?_
 obtain ⟨v,fr1,rfl,hmb,hr1,hk1,hi1⟩:=hr
 have htk:(twoB m.length++(m++enc ms)).take 2 = twoB m.length:=by simp [twoB]
 have hdr:(twoB m.length++(m++enc ms)).drop 2 = m++enc ms:=by simp [twoB]
 rw [htk] at hmb
 rw [hdr] at hr1
 have hs0:s < st.boxes.length:=hlt s (by simp)
 have hg1:st1.get s = _:=(ck (hk1.2 s hs0 (by simp [n1,n2]))).trans hg
 rcases hmb with ⟨_,e⟩ | ⟨bi,cap,rr,rfl,hgb,hb1,hb2⟩
 ·simp [twoB,BB] at e
 have hbl:bi < st1.boxes.length:=bw hgb
 have hbi:st.boxes.length≤bi:=hi1 bi (by simp [au])
 rw [aO,kJ] at hb1
 have hgb':st1.get bi = some (.lit (.int .u8 ((UInt8.ofNat (m.length / 256)).toNat:Int))::.lit (.int .u8 ((UInt8.ofNat m.length).toNat:Int))::rr):=by
  rw [hgb]; rfl
 rw [show (BB (twoB m.length)).length = 2 by rw [aO,kJ]]
 have hlen:256 * (UInt8.ofNat (m.length / 256)).toNat + (UInt8.ofNat m.length).toNat = m.length:=by
  have h1:(UInt8.ofNat (m.length / 256)).toNat = m.length / 256:=by simp; omega
  have h2:(UInt8.ofNat m.length).toNat = m.length % 256:=by simp
  omega
 generalize UInt8.ofNat (m.length / 256) = x1 at hgb' hlen
 generalize UInt8.ofNat m.length = x2 at hgb' hlen
 have hlen':((256 * x1.toNat + x2.toNat:Nat):Int) = ((m.length:Nat):Int):=by rw [hlen]
 have hnb:bi≠s∧bi≠r∧bi≠b:=by
  have:=hlt r (by simp)
  have:=hlt b (by simp)
  omega
 have hgr:(St.only st1 [s,bi]).get s = _:=(ck (only_at st1 (by simp))).trans hg1
 have hgbr:(St.only st1 [s,bi]).get bi = _:=(ck (only_at st1 (by simp))).trans hgb'
 simp (config:=KF) (disch:=omega) only [bZ,own2_bs,↓reduceIte,Nat.reduceEqDiff,reduceCtorEq]
 refine qs (St.only st1 [s,bi]) (only_sub fun x _ _=>rfl) ?_
 simp (config:=KF) (disch:=omega) only [bZ,g7,fI,iD,jy,mm_bin,mm_conv,ff,mm_ixS,i9,ez,nU,eD,lW,lX,io,ixSV,al,addA,gZ,ae,id,List.nil_append,List.cons_append,↓reduceIte,Nat.reduceEqDiff,Int.reduceLT,Int.reduceLE,reduceCtorEq,n_shl8,n_or8,hgr,hgbr,hlen']
 refine nV rfl e_f66 (mf hr1 (m:=m.length) (by omega)) rfl ?_
 simp (config:=KF) (disch:=omega) only [bZ,ksB,aJ,bg,bD,aK,nstB,bE,ln,hm_hole,gz,AI.dst,List.nil_append,List.cons_append,↓reduceIte,Nat.reduceEqDiff,reduceCtorEq]
 rintro w st2 ⟨v2,fr2,rfl,hmb2,hr2,hk2,hi2⟩
 have htk2:(m++enc ms).take m.length = m:=List.take_left
 have hdr2:(m++enc ms).drop m.length = enc ms:=List.drop_left
 rw [htk2] at hmb2
 rw [hdr2] at hr2
 obtain ⟨w1,w2,w3,w4,w5,w6,w7,w8⟩:=hmb2.facts
 have hl1:s < st1.boxes.length:=bw hg1
 have hg2:st2.get s = _:=(ck (hk2.2 s hl1 (by simp [n1,n2]))).trans hg1
 refine ⟨only_sub fun x hx hxl=>hk2.2 x hxl ?_,?_⟩
 ·simp only [List.mem_cons,List.not_mem_nil,or_false] at hx ⊢
  rcases hx with rfl | rfl
  ·simp [n1,n2]
  ·simp [hnb]
 have hmsl:S.msgs.length = ms.length + 1:=by rw [hm]; rfl
 have hms:((ms.length + 1:Nat):Int) - 1 = (ms.length:Int):=by omega
 have hug:=gV S.msgs
 rw [hmsl] at hg2
 simp (config:=KF) (disch:=omega) only [bZ,ksB,aJ,bg,bD,aK,cB,bS,nstB,bE,g7,fI,iD,jy,mm_ext,gy,fq,compM_t,gA,ja,retI,al,ah,addA,ae,nK,List.nil_append,List.cons_append,↓reduceIte,Nat.reduceEqDiff,Nat.reduceAdd,Nat.reduceLeDiff,reduceCtorEq,up_subL,af,aa,hg2,w1,w3,w5]
 have hl2:s < st2.boxes.length:=bw hg2
 refine hQ _ _ ⟨hmb2.at fun x hx=>bP ?_,⟨fr2,?_,hr2.at (bP (Ne.symm n1)) (bP (Ne.symm n2)),fun q hq=>h.ml q (by rw [hm]; simp [hq]),n1,n2⟩,?_,fun x hx=>Nat.le_trans hk1.1 (hi2 x hx)⟩
 ·have:=hi2 x hx
  omega
 ·rw [aG hl2]
  try simp
 ·refine ((Kp.wide hk1 (F':=[s,r,b]) (by simp +contextual)).trans hk2 fun x hx=>.inl (by simp at hx ⊢; exact .inr hx)).trans ((Oth.set st2 s _ (S:=[s]) (by simp)).kp (F:=[s]) (by simp)) (fun x hx=>.inl (by simp at hx ⊢; exact .inl hx))

theorem DV.kp {st':St} {F:List Nat} (h:DV v st p) (hk:Kp st st' F) (hf:∀ x ∈ au v,x ∉ F):DV v st' p:=h.at fun x hx=>hk.2 x (h.lt x hx) (hf x hx)

theorem eB {room need:Nat} (hn:need≤room):∀ (ms:List (List UInt8)) (k:Nat),used (bB room need ms k).1 + need≤room∧(bB room need ms k).2 + (bB room need ms k).1.length = k + ms.length∧∃ pre,ms = pre++(bB room need ms k).1
 | [],k=>⟨by simpa [bB,used] using hn,by simp [bB],[],rfl⟩
 | m :: r, k => by
   unfold bB
   split
   ·rename_i h; exact ⟨h,rfl,[],rfl⟩
   ·obtain ⟨h1,h2,pre,h3⟩:=eB hn r (k + 1)
    exact ⟨h1,by rw [List.length_cons]; omega,m::pre,by rw [List.cons_append,← h3]⟩

theorem give_calls (h:SbIs st s r b fr S) (hv:DV v st p) (hne:∀ x ∈ au v,x ∉ [s,r,b]) (hp:p.length≤1024) (hlo:S.lost + S.msgs.length < 1000000000) :
  am Go.Proofs.Try.prog n_f65 [.ptr s 0,v] st (fun _ st'=>(∃ fr',SbIs st' s r b fr' (cf p S))∧Kp st st' [s,r,b]):=by
 have hg:=h.get
 obtain ⟨v1,v2,v3,v4,v5,v6,v7,v8⟩:=hv.facts
 obtain ⟨u1,u2⟩:=h.use
 obtain ⟨n1,n2⟩:=h.ne
 have hlt:=h.lts
 have hs0:s < st.boxes.length:=hlt s (by simp)
 refine ap hmix k_f65 rfl rfl fun Q hQ=>?_
 unfold aFun c_f65
 unfold cf at hQ
 simp (config:=KF) (disch:=omega) only [bZ,id,↓reduceIte,Nat.reduceEqDiff,reduceCtorEq,v1]
 refine ak (vs:=[.ptr s 0,v]) (by simp [v1]; rfl) e_f63 (lF h hv (by omega)) (by simp [v5]; rfl) ?_
 simp (config:=KF) (disch:=omega) only [bZ,↓reduceIte,Nat.reduceEqDiff,reduceCtorEq]
 refine aS (fun h1=>?_) (fun h1=>?_)
 ·rw [if_pos h1] at hQ
  simp (config:=KF) (disch:=omega) only [bZ,id,↓reduceIte,Nat.reduceEqDiff,reduceCtorEq,v1]
  refine aq (vs:=[.ptr s 0,v]) (by simp [v1]; rfl) e_f76 (pG h hv hne hp h1) (by simp [v5]; rfl) fun w st1 hr=>?_
  simp (config:=KF) (disch:=omega) only [bZ,bX,retI,↓reduceIte,Nat.reduceEqDiff,reduceCtorEq]
  exact hQ _ _ ⟨⟨fr,hr.1⟩,hr.2.kp (fun x hx=>hx)⟩
 rw [if_neg h1] at hQ
 have hup:((S.lost:Nat):Int) + 1 = ((S.lost + 1:Nat):Int):=by omega
 have hlast:∀ Q':AV→St→Prop,(∀ v st',((∃ fr',SbIs st' s r b fr' { S with lost:=S.lost + 1 })∧Kp st st' [s,r,b])→Q' v st')→∀ v,Q' v (st.set s [.lit (.int .i64 S.topic),.lit (.int .i64 S.pol),.ptr r 0,.lit (.int .i64 (S.msgs.length:Nat)),.lit (.int .i64 ((S.lost + 1:Nat):Nat))]):=fun Q' hQ' v =>
  hQ' v _ ⟨⟨fr,aG hs0,h.rg.at (bP (Ne.symm n1)) (bP (Ne.symm n2)),h.ml,n1,n2⟩,(Oth.set st s _ (S:=[s]) (by simp)).kp (by simp)⟩
 simp (config:=KF) (disch:=omega) only [bZ,AI.dst,↓reduceIte,Nat.reduceEqDiff,reduceCtorEq]
 refine b8 (fun h2=>?_) (fun h2=>?_)
 ·simp (config:=KF) (disch:=omega) only [bZ,AI.dst,al,addA,ae,↓reduceIte,Nat.reduceEqDiff,reduceCtorEq,hg]
  refine aS (fun h3=>?_) (fun h3=>?_)
  ·rw [if_pos ⟨h2,h3⟩] at hQ
   simp (config:=KF) (disch:=omega) only [bZ,↓reduceIte,Nat.reduceEqDiff,reduceCtorEq]
   rw [f65_13w]
   have hd:=eB h2 S.msgs S.lost
   refine a8 (A:=List (List UInt8)×Nat×Nat×St) (fun a=>a.1.length) (fun a=>⟨[(0,.ptr s 0),(1,v),(4,.lit (.bool (decide (used a.1 + (p.length + 2)≤S.room))))],[]⟩) (fun a=>a.2.2.2)
    (fun a=>SbIs a.2.2.2 s r b a.2.2.1 { S with msgs:=a.1,lost:=a.2.1 }∧Kp st a.2.2.2 [s,r,b]∧bB S.room (p.length + 2) a.1 a.2.1 = bB S.room (p.length + 2) S.msgs S.lost∧a.2.1 + a.1.length < 1000000000)
    (S.msgs,S.lost,fr,st) ⟨h,Kp.refl _ _,rfl,hlo⟩ ?_ rfl ?_
   ·simp only [h1,decide_false]
    exact Sf.le_refl _
   rintro ⟨ms,k,fr1,s1⟩ ⟨i1,i2,i3,i4⟩ K hK hKe hKr
   simp only at i1 i2 i3 i4
   dsimp only
   have hv1:DV v s1 p:=DV.kp hv i2 hne
   have hs1:s < s1.boxes.length:=i1.lts s (by simp)
   simp (config:=KF) (disch:=omega) only [bZ,unA,↓reduceIte,Nat.reduceEqDiff,reduceCtorEq,dF]
   refine aS (fun h4=>?_) (fun h4=>?_)
   ·-- one goes
    cases ms with
    | nil=>simp only [used] at h4; omega
    | cons m ms =>
      simp (config:=KF) (disch:=omega) only [bZ,id,↓reduceIte,Nat.reduceEqDiff,reduceCtorEq]
      refine aq rfl e_f50 (og i1 (m:=m) (ms:=ms) rfl) rfl fun w st2 hr=>?_
      obtain ⟨hw,⟨fr2,j1⟩,j2,j3⟩:=hr
      have hg2:=j1.get
      simp only at hg2
      have hs2:s < st2.boxes.length:=bw hg2
      obtain ⟨w1,w2,w3,w4,w5,w6,w7,w8⟩:=hw.facts
      have hlen:k + (ms.length + 1) < 1000000000:=i4
      simp (config:=KF) (disch:=omega) only [bZ,al,ah,addA,ae,id,↓reduceIte,Nat.reduceEqDiff,Nat.reduceAdd,Nat.reduceLeDiff,reduceCtorEq,af,aa,hg2,v1]
      have k1:SbIs (st2.set s [.lit (.int .i64 S.topic),.lit (.int .i64 S.pol),.ptr r 0,.lit (.int .i64 (ms.length:Nat)),.lit (.int .i64 ((k + 1:Nat):Nat))]) s r b fr2 { S with msgs:=ms,lost:=k + 1 } :=
       ⟨aG hs2,j1.rg.at (bP (Ne.symm n1)) (bP (Ne.symm n2)),j1.ml,n1,n2⟩
      have k2:Kp st (st2.set s [.lit (.int .i64 S.topic),.lit (.int .i64 S.pol),.ptr r 0,.lit (.int .i64 (ms.length:Nat)),.lit (.int .i64 ((k + 1:Nat):Nat))]) [s,r,b] :=
       (i2.trans j2 fun x hx=>.inl hx).trans ((Oth.set st2 s _ (S:=[s]) (by simp)).kp (F:=[s]) (by simp)) (fun x hx=>.inl (by simp at hx ⊢; exact .inl hx))
      have hv2:=DV.kp hv k2 hne
      refine ak (vs:=[.ptr s 0,v]) (by simp [v1]; rfl) e_f63 (lF k1 hv2 (by omega)) (by simp [v5]; rfl) ?_
      simp (config:=KF) (disch:=omega) only [bZ,↓reduceIte,Nat.reduceEqDiff,reduceCtorEq]
      refine hK (ms,k + 1,fr2,_) _ ⟨k1,k2,?_,by simp only; omega⟩ (by simp only [List.length_cons]; omega) (Sf.le_refl _)
      simp only
      rw [← i3]
      conv=>rhs; unfold bB
      rw [if_neg (by omega)]
   ·-- it fits
    simp (config:=KF) (disch:=omega) only [bZ,↓reduceIte,Nat.reduceEqDiff,reduceCtorEq]
    refine hKe _ _ _ ?_
    simp (config:=KF) (disch:=omega) only [bZ,id,↓reduceIte,Nat.reduceEqDiff,reduceCtorEq,v1]
    have e:bB S.room (p.length + 2) ms k = (ms,k):=by
     cases ms with
     | nil=>rfl
     | cons m r=>unfold bB; rw [if_pos (by omega)]
    rw [← i3,e] at hQ
    refine aq (vs:=[.ptr s 0,v]) (by simp [v1]; rfl) e_f76 (pG i1 hv1 hne hp (by simp only; omega)) (by simp [v5]; rfl) fun w st2 hr=>?_
    simp (config:=KF) (disch:=omega) only [bZ,bX,retI,↓reduceIte,Nat.reduceEqDiff,reduceCtorEq]
    exact hQ _ _ ⟨⟨fr1,hr.1⟩,i2.trans (hr.2.kp (F:=[s,r,b]) fun x hx=>hx) fun x hx=>.inl hx⟩
  ·rw [if_neg (fun e=>h3 e.2)] at hQ
   simp (config:=KF) (disch:=omega) only [bZ,bX,retI,al,ah,addA,ae,↓reduceIte,Nat.reduceEqDiff,Nat.reduceAdd,Nat.reduceLeDiff,reduceCtorEq,af,aa,hg]
   exact hlast _ hQ _
 ·rw [if_neg (fun e=>h2 e.1)] at hQ
  simp (config:=KF) (disch:=omega) only [bZ,bX,retI,AI.dst,al,ah,addA,ae,↓reduceIte,Nat.reduceEqDiff,Nat.reduceAdd,Nat.reduceLeDiff,reduceCtorEq,af,aa,hg]
  exact hlast _ hQ _
end
end Go.Fx.YtbdjfccgkdgbfaaFx

