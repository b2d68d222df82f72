/- What the functions that the statement reaches compute: part 17. -/
import Derived.Test.YtgmeefljgbaanaaFxW16
namespace Go.Fx.YtgmeefljgbaanaaFx
open Go Go.Fx
attribute [local irreducible] aC runI aF a9

set_option maxRecDepth 100000
set_option maxHeartbeats 4000000

/-! Bind. -/
theorem pw:∀ {l m:List Nat},l.Nodup→(∀ x ∈ l,x ∈ m)→l.length≤m.length
  | [],_,_,_=>Nat.zero_le _
  | x :: r, m, hn, h => by
    obtain ⟨h1,h2⟩:=List.nodup_cons.1 hn
    have hx:=h x (by simp)
    have ih:=pw (m:=m.erase x) h2 fun y hy=>by
      have hy2:=h y (List.mem_cons_of_mem _ hy)
      exact (List.mem_erase_of_ne (fun e=>h1 (by rw [← e]; exact hy))).2 hy2
    rw [List.length_erase_of_mem hx] at ih
    have:0 < m.length:=List.length_pos_of_mem hx
    rw [List.length_cons]; omega
theorem used_len {l:List Sk} {a:Nat} (h:∀ j,j < a→(atS (j:Int) l).isSome = true):a≤l.length:=by
  have:=pw (l:=List.range a) (m:=l.map Sk.num) List.nodup_range fun x hx=>by
    have hx:=h x (List.mem_range.1 hx)
    cases hs:atS (x:Int) l with
    | none=>rw [hs] at hx; cases hx
    | some S =>
      obtain ⟨h1,h2⟩:=ko hs
      exact List.mem_map.2 ⟨S,h1,by omega⟩
  simpa using this
theorem SockR.ins {M:List (Int×SL)} {socks:List Sk} {k now:Nat} (h:SockR M socks k now) {y:SL} (hno:ai (y.S.num:Int) M = Option.none) (hok:y.S.num < 64∧y.S.dr + y.S.old + y.S.q.length≤k∧(y.S.pol = 1∨y.S.pol = 2)∧y.S.nm.size≤32∧y.S.life < 18446744073709551616∧∀ p ∈ y.S.q,p.data.length≤2048∧p.at_≤now) :
    SockR (updP (y.S.num:Int) y M) (insS y.S socks) k now:=by
  have hn:=h.none hno
  refine ⟨fun j=>?_,?_,srt_ins h.srt,fun S hS=>?_⟩
  · rw [aW,atS_ins h.srt hn]
    split
    · rfl
    · exact h.at_ j
  · rw [ej,hno,len_ins hn,h.len]; rfl
  · rcases mem_ins hS with rfl | hS
    · exact hok
    · exact h.ok S hS
theorem WaitR.ins {M:List (Int×SL)} {Wm:List (Int×WE)} {W:WL} {k:Nat} (h:WaitR M Wm W k) {i:Int} {y:SL} (hno:ai i M = none) (hy:y.L = []∧y.g = 0):WaitR (updP i y M) Wm W k:=by
  refine ⟨fun j z hz=>?_,h.mp,h.kn,h.nd,h.ok,fun e he=>?_⟩
  · rw [aW] at hz
    split at hz
    · rename_i e
      subst e; cases hz
      rw [hy.1,hy.2]
      refine ⟨(qOf_nil fun a ha q=>?_).symm,Nat.zero_le _⟩
      obtain ⟨x,hx⟩:=h.has a ha
      rw [q,hno] at hx; cases hx
    · exact h.que j z hz
  · obtain ⟨x,hx⟩:=h.has e he
    rw [aW]
    split
    · exact ⟨_,rfl⟩
    · exact ⟨x,hx⟩

def bindSS (st:St) (cs:List AV) (j:Nat) (s:St):Prop :=
  if j = 0 then s = st
  else if j = 1 then QIs s (st.boxes.length + 1) st.boxes.length [] 0∧s.boxes.length = st.boxes.length + 2∧∀ id,id < st.boxes.length→s.boxes[id]? = st.boxes[id]?
  else QIs s (st.boxes.length + 1) st.boxes.length [] 0∧s.boxes.length = st.boxes.length + 3∧s.get (st.boxes.length + 2) = some cs∧∀ id,id < st.boxes.length→s.boxes[id]? = st.boxes[id]?
theorem bindSS_sub (st:St) (cs:List AV) (j:Nat) (s:St) (h:bindSS st cs j s):St.sub st s:=by
  unfold bindSS at h
  split at h
  · subst h; exact St.sub_refl _
  · split at h
    · exact St.sub_of h.2.2
    · exact St.sub_of h.2.2.2

theorem jE {st:St} {n sid wid k:Nat} {R:NR} {F:List Nat} (hh:NetR st n sid wid k R F) (nm:ByteArray) (port packets bytes pol:Int) (life:Nat) (hnm:nm.size < 1000000) (hlife:life < 18446744073709551616) :
    ao Go.Proofs.Try.prog n_f9 [.ptr n 0,adAV nm port,.lit (.int .i64 packets),.lit (.int .i64 bytes),.lit (.int .i64 pol),.lit (.int .u64 (life:Nat))] st
      (fun x st'=>∃ F',x = .tup [.lit (.int .i64 (eM nm port packets bytes pol life R).2.1),.lit (.int .i64 (eM nm port packets bytes pol life R).2.2)]∧NP st st' n sid wid k F (eM nm port packets bytes pol life R).1 F'):=by
  obtain ⟨M,Wm,W,h1,h2,h3,h4,h5⟩:=hh.ex
  have hg:=h1.get
  have hlt:=hh.lt
  have hlts:=h1.lts
  have hvp:=lX st nm port (by omega)
  have hof:=of_pure h1 h2 nm port
  unfold adAV at hvp hof ⊢
  refine aA hmix k_f9 rfl rfl fun Q hQ=>?_
  unfold aFun c_f9
  unfold eM at hQ
  have same:∀ e:Int,∃ F',(AV.tup [.lit (.int .i64 0),.lit (.int .i64 e)]) = .tup [.lit (.int .i64 0),.lit (.int .i64 e)]∧NP st st n sid wid k F R F':=fun e=>by
    obtain ⟨F',h1,h2⟩:=NP.of (hh.mono (Nat.le_succ k) fun _ q=>q) (Kp.refl st F) (fun b hb=>.inl hb)
    exact ⟨F',rfl,h1⟩
  have hbad:¬ (gK nm port = true∧1≤packets∧packets≤256∧0≤bytes∧bytes≤65536∧(pol = 1∨pol = 2))→Q (.tup [.lit (.int .i64 0),.lit (.int .i64 2)]) st:=fun c=>by
    rw [if_pos c] at hQ; exact hQ _ _ (same 2)
  have hgood:(gK nm port = true∧1≤packets∧packets≤256∧0≤bytes∧bytes≤65536∧(pol = 1∨pol = 2))→aC Go.Proofs.Try.prog id false f9_15 ⟨[(0,.ptr n 0),(2,.lit (.int .i64 packets)),(3,.lit (.int .i64 bytes)),(4,.lit (.int .i64 pol)),(5,.lit (.int .u64 (life:Nat))),(7,.lptr 7 0),(18,.lit (.bool false))],[(7,[.lit (.string nm),.lit (.int .i64 port)])]⟩ st (eu 0 (seqQ (aC Go.Proofs.Try.prog id false f9_25) (retQ [RI.tmp 12,RI.tmp 13] Q))):=fun c=>by
    rw [if_neg (fun q=>q c)] at hQ
    obtain ⟨c1,c2,c3,c4,c5,c6⟩:=c
    simp (config:=KF) (disch:=omega) only [bZ,aa,id,↓reduceIte,Nat.reduceEqDiff,Nat.reduceAdd,Nat.reduceLeDiff,reduceCtorEq,f9_15e]
    refine am rfl e_f28 hof rfl ?_
    cases ho:ofS nm port R.socks with
    | some S =>
      rw [ho] at hQ
      simp only [Option.isSome_some,if_true] at hQ
      have:(S.num:Int) ≥ 0:=by omega
      simp (config:=KF) (disch:=omega) only [bZ,aE,retI,gI,↓reduceIte,Nat.reduceEqDiff,reduceCtorEq,this]
      exact hQ _ _ (same 11)
    | none =>
    rw [ho] at hQ
    simp only [Option.isSome_none,Bool.false_eq_true,if_false] at hQ
    have hml:=h2.len
    have hle:=km h1.smp
    simp (config:=KF) (disch:=omega) only [bZ,aj,addA,aa,gI,↓reduceIte,Nat.reduceEqDiff,Int.reduceNeg,reduceCtorEq,ci,hg,hle]
    refine ap (fun d1=>?_) (fun d1=>?_)
    · rw [if_pos (by omega)] at hQ
      simp (config:=KF) (disch:=omega) only [bZ,aE,retI,↓reduceIte,Nat.reduceEqDiff,reduceCtorEq]
      exact hQ _ _ (same 7)
    rw [if_neg (by omega)] at hQ
    simp (config:=KF) (disch:=omega) only [bZ,↓reduceIte,Nat.reduceEqDiff,reduceCtorEq,f9_25e]
    rw [f9_29w]
    generalize hN:ph R.socks 64 0 = N0 at hQ
    refine dN (A:=Nat) (fun a=>65 - a) (fun a=>⟨[(0,.ptr n 0),(2,.lit (.int .i64 packets)),(3,.lit (.int .i64 bytes)),(4,.lit (.int .i64 pol)),(5,.lit (.int .u64 (life:Nat))),(7,.lptr 7 0),(14,.lit (.int .i64 (a:Nat)))],[(7,[.lit (.string nm),.lit (.int .i64 port)])]⟩) (fun _=>st)
      (fun a=>a≤64∧(∀ j,j < a→(atS (j:Int) R.socks).isSome = true)∧ph R.socks (64 - a) a = N0) 0 ⟨by omega,fun _ q=>absurd q (Nat.not_lt_zero _),hN⟩ (by simp (config:=KF) (disch:=omega) only [bZ,↓reduceIte,Nat.reduceEqDiff,reduceCtorEq]; exact Sf.le_refl _) rfl fun a ha K hK hKe hKr=>?_
    obtain ⟨a1,a2,a3⟩:=ha
    have hal:=used_len a2
    have ha64:a < 64:=by omega
    have hlk:=dB h1 (a:Int)
    obtain ⟨f,hf⟩:∃ f,64 - a = f + 1:=⟨63 - a,by omega⟩
    rw [hf] at a3
    unfold ph at a3
    cases hx:ai (a:Int) M with
    | some x =>
      rw [hx] at hlk
      have hsx:=(h2.some hx).1
      rw [hsx] at a3
      simp only [Option.isSome_some,if_true] at a3
      simp (config:=KF) (disch:=omega) only [bZ,aV,aj,l8,aJ,addA,aa,di,↓reduceIte,Nat.reduceEqDiff,reduceCtorEq,bY,hg,hlk]
      refine hK (a + 1) _ ⟨by omega,fun j hj=>?_,by rw [show 64 - (a + 1) = f by omega]; exact a3⟩ (by omega) (Sf.le_refl _)
      by_cases e:j = a
      · subst e; rw [hsx]; rfl
      · exact a2 j (by omega)
    | none =>
      rw [hx] at hlk
      have hsx:=h2.none hx
      rw [hsx] at a3
      simp only [Option.isSome_none,Bool.false_eq_true,if_false] at a3
      rw [← a3] at hQ
      simp (config:=KF) (disch:=omega) only [bZ,bh,cf,aV,aj,l8,aJ,addA,aa,↓reduceIte,Nat.reduceEqDiff,reduceCtorEq,hg,hlk]
      refine hKe _ _ _ ?_
      obtain ⟨pn,rfl⟩:∃ pn:Nat,packets = (pn:Int):=⟨packets.toNat,by omega⟩
      obtain ⟨bn,rfl⟩:∃ bn:Nat,bytes = (bn:Int):=⟨bytes.toNat,by omega⟩
      rw [Int.toNat_natCast,Int.toNat_natCast] at hQ
      obtain ⟨cs,hcs⟩:∃ cs:List AV,cs = [.lit (.string nm),.lit (.int .i64 port),.lit (.int .i64 (pn:Nat)),.lit (.int .i64 (bn:Nat)),.lit (.int .i64 pol),.lit (.int .u64 (life:Nat)),.lit (.slice none 0 0),.lit (.int .i64 0),.lit (.int .i64 0),.lit (.int .i64 0),.ptr (st.boxes.length + 1) 0]:=⟨_,rfl⟩
      simp (config:=KF) (disch:=omega) only [bZ,aK,↓reduceIte,f9_37e,f9_37h,f9_37l]
      refine draw_x (bindSS st cs) rfl (bindSS_sub st cs) ?_
      simp (config:=KF) (disch:=omega) only [bZ,mm_mv,ql,qm,nx,g_none_f,g_none_t,g_val,g_call,aj,addA,aa,id,↓reduceIte,Nat.reduceEqDiff,Nat.reduceAdd,Nat.reduceLeDiff,reduceCtorEq,hg]
      refine call_x (v:=.ptr (st.boxes.length + 1) 0) rfl e_f29 (fun s hs=>by
        have hs:s = st:=hs
        subst hs
        exact (qnew_calls s).mono fun r st' ⟨e,q1,q2,q3⟩=>⟨e,q1,q2,q3⟩) rfl ?_
      simp (config:=KF) (disch:=omega) only [bZ,mm_bst,g_none_f,g_none_t,g_val,g_mkv,g_box,bstV,aP,k9,gv,↓reduceIte,Nat.reduceEqDiff,Nat.reduceAdd,Nat.reduceLeDiff,reduceCtorEq]
      refine box_x (st.boxes.length + 2) rfl rfl (fun s hs=>?_) ?_
      · obtain ⟨q1,q2,q3⟩:QIs s (st.boxes.length + 1) st.boxes.length [] 0∧s.boxes.length = st.boxes.length + 2∧∀ id,id < st.boxes.length→s.boxes[id]? = st.boxes[id]?:=hs
        have hg2:=bL s cs
        rw [q2] at hg2
        refine ⟨q2,q1.at (bE (by omega)) (bE (by omega)),by rw [aI,q2],?_,fun id hid=>(bE (by omega)).trans (q3 id hid)⟩
        rw [hcs] at hg2 ⊢
        exact hg2
      simp (config:=KF) (disch:=omega) only [bZ,g_nil,g_mkv,tailG_nil,lS,↓reduceIte,Nat.reduceEqDiff,reduceCtorEq]
      intro s hs
      obtain ⟨q1,q2,q3,q4⟩:QIs s (st.boxes.length + 1) st.boxes.length [] 0∧s.boxes.length = st.boxes.length + 3∧s.get (st.boxes.length + 2) = some cs∧∀ id,id < st.boxes.length→s.boxes[id]? = st.boxes[id]?:=hs
      have hks:Kp st s []:=⟨by omega,fun i hi _=>q4 i hi⟩
      have hns:=h1.kp hks fun _ _ q=>by cases q
      obtain ⟨S,hS⟩:∃ S:Sk,S = ⟨a,nm,port,pn,bn,pol,life,[],0,0⟩:=⟨_,rfl⟩
      have hyi:(SL.mk (st.boxes.length + 2) (st.boxes.length + 1) st.boxes.length 0 (.lit (.slice none 0 0)) [] S).is s:=by
        refine ⟨?_,?_,q1,?_,?_,?_,?_⟩
        · rw [q3,hcs,hS]; rfl
        · rw [hS]; exact PB.nil _
        · rw [hS]; simp only; omega
        · rw [hS]; simp only; omega
        · rw [hS]; simp [used]
        · simp [ae]
      refine eK (b:=(SL.mk (st.boxes.length + 2) (st.boxes.length + 1) st.boxes.length 0 (.lit (.slice none 0 0)) [] S)) hns.smp rfl rfl fun s2 hm2 ho2=>?_
      have hadd:=h1.add (i:=(a:Int)) (by omega) hx hks hyi (fun b hb=>by
        unfold SL.ids at hb
        simp only [ae,List.append_nil,List.mem_cons,List.not_mem_nil,or_false] at hb
        omega) ho2 hm2
      simp (config:=KF) (disch:=omega) only [bZ,retI,↓reduceIte,Nat.reduceEqDiff,reduceCtorEq]
      have hnm32:nm.size≤32:=by
        unfold gK iE at c1
        simp only [Bool.and_eq_true,decide_eq_true_eq] at c1
        exact c1.1.2.2
      have hnum:(S.num:Int) = (a:Int):=by rw [hS]
      have hsk:=h2.ins (y:=SL.mk (st.boxes.length + 2) (st.boxes.length + 1) st.boxes.length 0 (.lit (.slice none 0 0)) [] S) (by rw [hnum]; exact hx) (by rw [hS]; exact ⟨ha64,by simp,c6,hnm32,hlife,fun _ q=>by cases q⟩)
      rw [hnum] at hsk
      have hkp:Kp st s2 F:=(Kp.wide hks fun _ q=>by cases q).trans (ho2.kp (F:=[sid]) fun _ q=>q) fun b hb=>.inl (by
        simp only [List.mem_singleton] at hb
        subst hb
        exact h5 _ ((bJ h1.smp.nd).2 (.inr (.inl rfl))))
      obtain ⟨F',n1,n2⟩:=NP.of (st:=st) (F:=F) (R':={ R with socks:=insS S R.socks }) ⟨⟨_,_,_,hadd.1,hsk.mono (Nat.le_succ k) (Nat.le_refl _),(h3.ins hx ⟨rfl,rfl⟩).mono (Nat.le_succ k),h4,fun _ q=>q⟩,hlt⟩ hkp (fun b hb=>(hadd.2 b hb).imp (h5 b) id)
      rw [hS] at n1
      exact hQ _ _ ⟨F',rfl,n1⟩
  simp (config:=KF) (disch:=omega) only [bZ,fo,id,↓reduceIte,Nat.reduceEqDiff,Nat.reduceAdd,reduceCtorEq]
  refine am rfl e_f26 (dq h1) rfl ?_
  simp (config:=KF) (disch:=omega) only [bZ,aa,id,↓reduceIte,Nat.reduceEqDiff,Nat.reduceAdd,Nat.reduceLeDiff,reduceCtorEq]
  refine am rfl e_f27 hvp rfl ?_
  cases hva:gK nm port with
  | false =>
    simp (config:=KF) (disch:=omega) only [bZ,k7,aE,retI,AI.dst,unA,↓reduceIte,Nat.reduceEqDiff,reduceCtorEq]
    exact hbad (fun q=>by rw [hva] at q; cases q.1)
  | true =>
    (repeat' (first | omega | (simp (config:=KF) (disch:=omega) only [bZ,k7,aE,retI,AI.dst,unA,cM,↓reduceIte,Nat.reduceEqDiff,reduceCtorEq]) | refine ap (fun h=>?_) (fun h=>?_) | refine aZ (fun h=>?_) (fun h=>?_) | refine cq (fun h=>?_) (fun h=>?_) | exact hgood ⟨hva,by omega,by omega,by omega,by omega,by omega⟩ | exact hbad (fun q=>by omega)))
end Go.Fx.YtgmeefljgbaanaaFx

