/- What the functions that the statement reaches compute: part 11. -/
import Derived.Test.YtgmeefljgbaanaaFxW10
namespace Go.Fx.YtgmeefljgbaanaaFx
open Go Go.Fx
attribute [local irreducible] aC runI aF a9

set_option maxRecDepth 100000
set_option maxHeartbeats 4000000

/-! Waiting tasks. -/
abbrev WL:=List (Nat×WE)
def cA (t:Int):WL→Option WE
  | []=>none
  | e::r=>if (e.1:Int) = t then some e.2 else cA t r
def qOf (i:Int) (W:WL):Qu:=W.flatMap fun e=>if (e.2.sock:Int) = i then [(e.2.tick,(e.1:Int))] else []
def cJ (e:Nat×WE):Wt:=⟨e.1,e.2.sock,e.2.most⟩
theorem gD (i:Int) (A B:WL):qOf i (A++B) = qOf i A++qOf i B:=by simp [qOf]
theorem cK (i:Int) (e:Nat×WE) (B:WL):qOf i (e::B) = (if (e.2.sock:Int) = i then [(e.2.tick,(e.1:Int))] else [])++qOf i B:=rfl
theorem qOf_nil {i:Int} {A:WL} (h:∀ a ∈ A,(a.2.sock:Int)≠i):qOf i A = []:=by
  unfold qOf
  rw [List.flatMap_eq_nil_iff]
  intro a ha
  rw [if_neg (h a ha)]
theorem qOf_len (i:Int):∀ W:WL,(qOf i W).length≤W.length
  | []=>Nat.le_refl _
  | e :: r => by
    have:=qOf_len i r
    rw [cK,List.length_append,List.length_cons]
    split <;> simp <;> omega
theorem ge (t:Int) (B:WL):∀ A:WL,cA t (A++B) = match cA t A with | some x=>some x | none=>cA t B
  | []=>rfl
  | e :: r => by
    simp only [List.cons_append,cA]
    split
    · rfl
    · exact ge t B r
theorem gE {t:Int}:∀ {A:WL},(∀ a ∈ A,(a.1:Int)≠t)→cA t A = none
  | [],_=>rfl
  | e :: r, h => by
    unfold cA
    rw [if_neg (h e (by simp))]
    exact gE fun a ha=>h a (by simp [ha])
theorem pj {t:Int}:∀ {A:WL},cA t A = none→∀ a ∈ A,(a.1:Int)≠t
  | [],_,_,ha=>by cases ha
  | e :: r, h, a, ha => by
    unfold cA at h
    split at h
    · cases h
    · rename_i hne
      rcases List.mem_cons.1 ha with rfl | ha
      · exact hne
      · exact pj h a ha
theorem jC {t:Int}:∀ {A:WL} {w:WE},cA t A = some w→∃ (B C:WL) (k:Nat),A = B++(k,w)::C∧(k:Int) = t
  | [],_,h=>by cases h
  | e :: r, w, h => by
    unfold cA at h
    split at h
    · rename_i he
      cases h
      exact ⟨[],r,e.1,rfl,he⟩
    · obtain ⟨B,C,k,h1,h2⟩:=jC h
      exact ⟨e::B,C,k,by rw [h1]; rfl,h2⟩
theorem nD:∀ (k:Nat) {l:List Nat},l.Nodup→(∀ x ∈ l,x < k)→l.length≤k
  | 0, l, _, h => by
    cases l with
    | nil=>exact Nat.le_refl _
    | cons x r=>have:=h x (by simp); omega
  | k + 1, l, hn, h => by
    have h1:(l.erase k).length≤k:=nD k (hn.erase k) fun x hx=>by
      have h2:=(hn.mem_erase_iff).1 hx
      have:=h x h2.2
      have:=h2.1
      omega
    by_cases hk:k ∈ l
    · rw [List.length_erase_of_mem hk] at h1
      omega
    · rw [List.erase_of_not_mem hk] at h1
      omega

structure WaitR (M:List (Int×SL)) (Wm:List (Int×WE)) (W:WL) (k:Nat):Prop where
  que:∀ (i:Int) x,ai i M = some x→x.L = qOf i W∧x.g≤k
  mp:∀ t:Int,ai t Wm = cA t W
  kn:(aT Wm).Nodup
  nd:(W.map Prod.fst).Nodup
  ok:∀ e ∈ W,e.1 < 64∧0≤e.2.most
  has:∀ e ∈ W,∃ x,ai (e.2.sock:Int) M = some x
section
variable {M:List (Int×SL)} {Wm:List (Int×WE)} {W:WL} {k:Nat}
theorem WaitR.mono {k':Nat} (h:WaitR M Wm W k) (hk:k≤k'):WaitR M Wm W k' :=
  ⟨fun i x hx=>⟨(h.que i x hx).1,by have:=(h.que i x hx).2; omega⟩,h.mp,h.kn,h.nd,h.ok,h.has⟩
theorem WaitR.len (h:WaitR M Wm W k):W.length≤64:=by
  have:=nD 64 h.nd fun x hx=>by
    obtain ⟨e,he,rfl⟩:=List.mem_map.1 hx
    exact (h.ok e he).1
  simpa using this
/-- A socket changes, not its queue of tasks. -/
theorem WaitR.sock {i:Int} {x y:SL} (h:WaitR M Wm W k) (hx:ai i M = some x) (hL:y.L = x.L) (hg:y.g = x.g):WaitR (updP i y M) Wm W k:=by
  refine ⟨fun j z hz=>?_,h.mp,h.kn,h.nd,h.ok,fun e he=>?_⟩
  · rw [aW] at hz
    split at hz
    · rename_i e; subst e; cases hz; rw [hL,hg]; exact h.que _ x hx
    · exact h.que j z hz
  · obtain ⟨z,hz⟩:=h.has e he
    rw [aW]
    split
    · exact ⟨_,rfl⟩
    · exact ⟨z,hz⟩
theorem WaitR.del {A B:WL} {e:Nat×WE} {x y:SL} (h:WaitR M Wm (A++e::B) k) (hx:ai (e.2.sock:Int) M = some x) (hy:y.L = qOf (e.2.sock:Int) A++qOf (e.2.sock:Int) B) (hg:y.g = x.g) :
    WaitR (updP (e.2.sock:Int) y M) (delP (e.1:Int) Wm) (A++B) k:=by
  have hnd:=h.nd
  rw [List.map_append,List.map_cons,List.nodup_append] at hnd
  obtain ⟨n1,n2,n3⟩:=hnd
  have hno:∀ a ∈ A++B,a.1≠e.1:=by
    intro a ha q
    rcases List.mem_append.1 ha with ha | ha
    · exact n3 a.1 (List.mem_map_of_mem ha) e.1 (by simp) q
    · exact (List.nodup_cons.1 n2).1 (by rw [← q]; exact List.mem_map_of_mem ha)
  have hsub:∀ a ∈ A++B,a ∈ A++e::B:=fun a ha=>by
    rcases List.mem_append.1 ha with ha | ha
    · exact List.mem_append_left _ ha
    · exact List.mem_append_right _ (List.mem_cons_of_mem _ ha)
  refine ⟨fun j z hz=>?_,fun t=>?_,iR h.kn,?_,fun a ha=>h.ok a (hsub a ha),fun a ha=>?_⟩
  · rw [aW] at hz
    split at hz
    · rename_i hj
      subst hj; cases hz
      exact ⟨by rw [hy,gD],by rw [hg]; exact (h.que _ x hx).2⟩
    · rename_i hj
      obtain ⟨q1,q2⟩:=h.que j z hz
      refine ⟨?_,q2⟩
      rw [q1,gD,gD,cK,if_neg (fun q=>hj q.symm),List.nil_append]
  · rw [ei _ _ h.kn]
    by_cases ht:t = (e.1:Int)
    · rw [if_pos ht,gE]
      intro a ha q
      exact hno a ha (by omega)
    · rw [if_neg ht,h.mp,ge,ge]
      conv=>lhs; rw [cA,if_neg (fun q=>ht q.symm)]
  · rw [List.map_append]
    exact List.nodup_append.2 ⟨n1,(List.nodup_cons.1 n2).2,fun a ha b hb=>n3 a ha b (List.mem_cons_of_mem _ hb)⟩
  · obtain ⟨z,hz⟩:=h.has a (hsub a ha)
    rw [aW]
    split
    · exact ⟨_,rfl⟩
    · exact ⟨z,hz⟩
theorem WaitR.add {t:Nat} {w:WE} {x y:SL} (h:WaitR M Wm W k) (hno:cA (t:Int) W = none) (ht:t < 64) (hm:0≤w.most) (hx:ai (w.sock:Int) M = some x) (hw:w.tick = x.g + 1) (hy:y.L = x.L++[(x.g + 1,(t:Int))]) (hg:y.g = x.g + 1) :
    WaitR (updP (w.sock:Int) y M) (updP (t:Int) w Wm) (W++[(t,w)]) (k + 1):=by
  have hnk:t ∉ W.map Prod.fst:=fun q=>by
    obtain ⟨a,ha,e⟩:=List.mem_map.1 q
    exact pj hno a ha (by rw [e])
  refine ⟨fun j z hz=>?_,fun u=>?_,lm h.kn,?_,fun a ha=>?_,fun a ha=>?_⟩
  · rw [aW] at hz
    split at hz
    · rename_i hj
      subst hj; cases hz
      obtain ⟨q1,q2⟩:=h.que _ x hx
      refine ⟨?_,by omega⟩
      rw [hy,gD,q1,cK,if_pos rfl,hw]; rfl
    · rename_i hj
      obtain ⟨q1,q2⟩:=h.que j z hz
      refine ⟨?_,by omega⟩
      rw [q1,gD,cK,if_neg (fun q=>hj q.symm)]; simp [qOf]
  · rw [aW,ge,h.mp]
    by_cases htk:u = (t:Int)
    · rw [if_pos htk,htk,hno]; simp [cA]
    · rw [if_neg htk]
      cases cA u W with
      | some _=>rfl
      | none=>simp only [cA]; rw [if_neg (fun q=>htk q.symm)]
  · rw [List.map_append]
    refine List.nodup_append.2 ⟨h.nd,by simp,fun a ha b hb q=>?_⟩
    simp only [List.map_cons,List.map_nil,List.mem_singleton] at hb
    subst hb; subst q
    exact hnk ha
  · rcases List.mem_append.1 ha with ha | ha
    · exact h.ok a ha
    · simp only [List.mem_singleton] at ha
      subst ha
      exact ⟨ht,hm⟩
  · have:∃ z,ai (a.2.sock:Int) M = some z:=by
      rcases List.mem_append.1 ha with ha | ha
      · exact h.has a ha
      · simp only [List.mem_singleton] at ha
        subst ha; exact ⟨x,hx⟩
    obtain ⟨z,hz⟩:=this
    rw [aW]
    split
    · exact ⟨_,rfl⟩
    · exact ⟨z,hz⟩
end

/-! The first one that waits. -/
def popW (i:Int):WL→Option ((Nat×WE)×WL)
  | []=>none
  | w :: r => if (w.2.sock : Int) = i then some (w, r) else match popW i r with
    | none=>none
    | some (x,s)=>some (x,w::s)
theorem nE (i:Int):∀ W:WL,fstW i (W.map cJ) = match popW i W with | none=>none | some (e,r)=>some (cJ e,r.map cJ)
  | []=>rfl
  | w :: r => by
    simp only [List.map_cons,fstW,popW]
    have:(cJ w).sock = w.2.sock:=rfl
    rw [this]
    split
    · rfl
    · rw [nE i r]
      cases popW i r with
      | none=>rfl
      | some q=>rfl
theorem pm (i:Int):∀ {W:WL},popW i W = none→qOf i W = []
  | [],_=>rfl
  | w :: r, h => by
    simp only [popW] at h
    split at h
    · cases h
    · rename_i hne
      rw [cK,if_neg hne,List.nil_append]
      refine pm i ?_
      cases hp:popW i r with
      | none=>rfl
      | some q=>rw [hp] at h; cases h
theorem po (i:Int):∀ {W:WL} {e:Nat×WE} {r:WL},popW i W = some (e,r)→∃ A B:WL,W = A++e::B∧r = A++B∧(e.2.sock:Int) = i∧qOf i A = []
  | [],_,_,h=>by cases h
  | w :: s, e, r, h => by
    simp only [popW] at h
    split at h
    · rename_i ht
      simp only [Option.some.injEq,Prod.mk.injEq] at h
      obtain ⟨rfl,rfl⟩:=h
      exact ⟨[],_,rfl,rfl,ht,rfl⟩
    · rename_i hne
      cases hp:popW i s with
      | none=>rw [hp] at h; cases h
      | some q =>
        obtain ⟨x,t⟩:=q
        rw [hp] at h
        simp only [Option.some.injEq,Prod.mk.injEq] at h
        obtain ⟨rfl,rfl⟩:=h
        obtain ⟨A,B,h1,h2,h3,h4⟩:=po i hp
        exact ⟨w::A,B,by rw [h1]; rfl,by rw [h2]; rfl,h3,by rw [cK,if_neg hne,h4]; rfl⟩
theorem lq {t:Int}:∀ {W:WL},cA t W = none→delW t (W.map cJ) = none
  | [],_=>rfl
  | e :: r, h => by
    unfold cA at h
    split at h
    · cases h
    · rename_i hne
      simp only [List.map_cons,delW]
      rw [if_neg (show ¬ ((cJ e).task:Int) = t from hne),lq h]
theorem lu {t:Int} {e:Nat×WE} {B:WL} (he:(e.1:Int) = t):∀ {A:WL},(∀ a ∈ A,(a.1:Int)≠t)→delW t ((A++e::B).map cJ) = some (cJ e,(A++B).map cJ)
  | [], _ => by
    simp only [List.nil_append,List.map_cons,delW]
    rw [if_pos (show ((cJ e).task:Int) = t from he)]
  | a :: A, h => by
    simp only [List.cons_append,List.map_cons,delW]
    rw [if_neg (show ¬ ((cJ a).task:Int) = t from h a (by simp)),lu he fun b hb=>h b (by simp [hb])]

/-- The net, as it is seen. -/
structure NetR (st:St) (n sid wid k:Nat) (R:NR) (F:List Nat):Prop where
  ex:∃ M Wm W,NetIs st n sid wid R.now M Wm∧SockR M R.socks k R.now∧WaitR M Wm W k∧W.map cJ = R.ws∧∀ b ∈ cS n sid wid M,b ∈ F
  lt:R.now < 18446744073709551615
section
variable {st st':St} {n sid wid k:Nat} {R:NR} {F G:List Nat}
theorem NetR.mono {k':Nat} (hh:NetR st n sid wid k R F) (hk:k≤k') (hf:∀ b ∈ F,b ∈ G):NetR st n sid wid k' R G:=by
  obtain ⟨M,Wm,W,h1,h2,h3,h4,h5⟩:=hh.ex
  exact ⟨⟨M,Wm,W,h1,h2.mono hk (Nat.le_refl _),h3.mono hk,h4,fun b hb=>hf b (h5 b hb)⟩,hh.lt⟩
theorem NetR.kp (hh:NetR st n sid wid k R F) (hk:Kp st st' G) (hf:∀ b ∈ F,b ∉ G):NetR st' n sid wid k R F:=by
  obtain ⟨M,Wm,W,h1,h2,h3,h4,h5⟩:=hh.ex
  exact ⟨⟨M,Wm,W,h1.kp hk fun b hb=>hf b (h5 b hb),h2,h3,h4,h5⟩,hh.lt⟩
end
section
variable {st:St} {n sid wid now:Nat} {M:List (Int×SL)} {Wm:List (Int×WE)} {socks:List Sk} {k:Nat}
theorem SockR.some (h:SockR M socks k now) {i:Int} {x:SL} (hx:ai i M = Option.some x):atS i socks = Option.some x.S∧x.S ∈ socks∧(x.S.num:Int) = i:=by
  have:=h.at_ i
  rw [hx] at this
  exact ⟨this.symm,ko this.symm⟩
theorem SockR.none (h:SockR M socks k now) {i:Int} (hx:ai i M = Option.none):atS i socks = Option.none:=by
  have:=h.at_ i
  rw [hx] at this
  exact this.symm
theorem SockR.has (h:SockR M socks k now) {S:Sk} (hS:S ∈ socks):∃ x,ai (S.num:Int) M = Option.some x∧x.S = S:=by
  have:=h.at_ (S.num:Int)
  rw [gC h.srt hS] at this
  cases hx:ai (S.num:Int) M with
  | none=>rw [hx] at this; cases this
  | some x=>rw [hx] at this; exact ⟨x,rfl,Option.some.inj this⟩
/-- The number of the socket with an address. -/
theorem of_pure (hh:NetIs st n sid wid now M Wm) (hs:SockR M socks k now) (nm:ByteArray) (port:Int) :
    az Go.Proofs.Try.prog n_f28 [.ptr n 0,adAV nm port] st (.lit (.int .i64 (match ofS nm port socks with | some S=>(S.num:Int) | none=>-1))):=by
  have hg:=hh.get
  refine aB hmix k_f28 rfl rfl fun Q hQ=>?_
  unfold aFun c_f28 adAV
  simp (config:=KF) (disch:=omega) only [bZ,fo,↓reduceIte,Nat.reduceEqDiff,Nat.reduceAdd,reduceCtorEq]
  rw [f28_7w]
  refine dN (A:=Nat) (fun a=>65 - a) (fun a=>⟨[(0,.ptr n 0),(3,.lptr 3 0),(7,.lit (.int .i64 (a:Nat)))],[(3,[.lit (.string nm),.lit (.int .i64 port)])]⟩) (fun _=>st)
    (fun a=>a≤64∧∀ T ∈ socks,T.num < a→¬ (T.nm = nm∧T.port = port)) 0 ⟨by omega,fun _ _ q=>absurd q (Nat.not_lt_zero _)⟩ (by simp (config:=KF) (disch:=omega) only [bZ,↓reduceIte,Nat.reduceEqDiff,reduceCtorEq]; exact Sf.le_refl _) rfl fun a ha K hK hKe hKr=>?_
  obtain ⟨h1,h2⟩:=ha
  simp (config:=KF) (disch:=omega) only [bZ,↓reduceIte,Nat.reduceEqDiff,reduceCtorEq]
  refine ap (fun c1=>?_) (fun c1=>?_)
  · have ha64:a < 64:=by omega
    have hnext:(∀ T ∈ socks,T.num = a→¬ (T.nm = nm∧T.port = port))→∀ sf',(sf'.mask [0,3,7] [3]).le ⟨[(0,.ptr n 0),(3,.lptr 3 0),(7,.lit (.int .i64 ((a + 1:Nat):Nat)))],[(3,[.lit (.string nm),.lit (.int .i64 port)])]⟩→K .normal sf' st:=fun g sf' hs' =>
      hK (a + 1) sf' ⟨by omega,fun T hT hlt=>by
        by_cases e:T.num = a
        · exact g T hT e
        · exact h2 T hT (by omega)⟩ (by omega) hs'
    have hlk:=dB hh (a:Int)
    cases hx:ai (a:Int) M with
    | none =>
      rw [hx] at hlk
      have hno:=hs.none hx
      simp (config:=KF) (disch:=omega) only [bZ,dQ,eO,eA,e9,aM,AI.dst,aV,aj,l8,aJ,addA,aa,di,↓reduceIte,Nat.reduceEqDiff,reduceCtorEq,bY,hg,hlk]
      refine hnext (fun T hT e=>?_) _ (Sf.le_refl _)
      have:=gC hs.srt hT
      rw [e,hno] at this; cases this
    | some x =>
      rw [hx] at hlk
      obtain ⟨q1,q2,q3⟩:=hs.some hx
      have hgx:=(hh.sub _ x hx).get
      have hch:=acmp_pure st x.S.nm nm x.S.port port
      unfold adAV at hch
      simp (config:=KF) (disch:=omega) only [bZ,dQ,eO,bf,bd,bj,cW,aM,AI.dst,aV,aj,l8,aJ,addA,aa,id,↓reduceIte,Nat.reduceEqDiff,Nat.reduceAdd,Nat.reduceLeDiff,reduceCtorEq,hg,hlk,hgx]
      refine am rfl e_f48 hch rfl ?_
      by_cases hc:cmpA x.S.nm x.S.port nm port = 0
      · have hc':=pB.1 hc
        simp (config:=KF) (disch:=omega) only [bZ,aE,AI.dst,↓reduceIte,Nat.reduceEqDiff,reduceCtorEq,hc]
        refine hKr _ _ ?_
        simp (config:=KF) (disch:=omega) only [bZ,aE,retI,↓reduceIte]
        rw [pi hs.srt q2 hc'.1 hc'.2 (fun T hT hlt=>h2 T hT (by omega))] at hQ
        have:=hQ st
        simp only [q3] at this
        exact this
      · simp (config:=KF) (disch:=omega) only [bZ,AI.dst,di,↓reduceIte,Nat.reduceEqDiff,reduceCtorEq,bY,hc]
        refine hnext (fun T hT e=>?_) _ (Sf.le_refl _)
        have:=gC hs.srt hT
        rw [e,q1] at this
        cases this
        exact fun q=>hc (pB.2 q)
  · simp (config:=KF) (disch:=omega) only [bZ,bh,cf,↓reduceIte,Nat.reduceEqDiff,reduceCtorEq]
    refine hKe _ _ _ ?_
    simp (config:=KF) (disch:=omega) only [bZ,aK,retI,↓reduceIte,Int.reduceNeg]
    rw [ofS_none fun T hT=>h2 T hT (by have:=(hs.ok T hT).1; omega)] at hQ
    exact hQ _
end
end Go.Fx.YtgmeefljgbaanaaFx

