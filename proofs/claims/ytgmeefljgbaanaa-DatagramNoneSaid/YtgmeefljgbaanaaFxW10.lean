/- What the functions that the statement reaches compute: part 10. -/
import Derived.Test.YtgmeefljgbaanaaFxW9
namespace Go.Fx.YtgmeefljgbaanaaFx
open Go Go.Fx
attribute [local irreducible] aC runI aE bz

set_option maxRecDepth 100000
set_option maxHeartbeats 4000000

/-! Waiting tasks. -/
abbrev WL:=List (Nat×WE)
def dq (t:Int):WL→Option WE
  | []=>none
  | e::r=>if (e.1:Int) = t then some e.2 else dq t r
def qOf (i:Int) (W:WL):Qu:=W.flatMap fun e=>if (e.2.sock:Int) = i then [(e.2.tick,(e.1:Int))] else []
def ee (e:Nat×WE):Wt:=⟨e.1,e.2.sock,e.2.most⟩
theorem g9 (i:Int) (A B:WL):qOf i (A++B) = qOf i A++qOf i B:=by simp [qOf]
theorem eT (i:Int) (e:Nat×WE) (B:WL):qOf i (e::B) = (if (e.2.sock:Int) = i then [(e.2.tick,(e.1:Int))] else [])++qOf i B:=rfl
theorem qOf_nil {i:Int} {A:WL} (h:∀ a ∈ A,(a.2.sock:Int)≠i):qOf i A = []:=by
  unfold qOf
  rw [List.flatMap_eq_nil_iff]
  intro a ha
  rw [if_neg (h a ha)]
theorem qOf_len (i:Int):∀ W:WL,(qOf i W).length≤W.length
  | []=>Nat.le_refl _
  | e :: r => by
    have:=qOf_len i r
    rw [eT,List.length_append,List.length_cons]
    split <;> simp <;> omega
theorem fL (t:Int) (B:WL):∀ A:WL,dq t (A++B) = match dq t A with | some x=>some x | none=>dq t B
  | []=>rfl
  | e :: r => by
    simp only [List.cons_append,dq]
    split
    · rfl
    · exact fL t B r
theorem iL {t:Int}:∀ {A:WL},(∀ a ∈ A,(a.1:Int)≠t)→dq t A = none
  | [],_=>rfl
  | e :: r, h => by
    unfold dq
    rw [if_neg (h e (by simp))]
    exact iL fun a ha=>h a (by simp [ha])
theorem nK {t:Int}:∀ {A:WL},dq t A = none→∀ a ∈ A,(a.1:Int)≠t
  | [],_,_,ha=>by cases ha
  | e :: r, h, a, ha => by
    unfold dq at h
    split at h
    · cases h
    · rename_i hne
      rcases List.mem_cons.1 ha with rfl | ha
      · exact hne
      · exact nK h a ha
theorem ml {t:Int}:∀ {A:WL} {w:WE},dq t A = some w→∃ (B C:WL) (k:Nat),A = B++(k,w)::C∧(k:Int) = t
  | [],_,h=>by cases h
  | e :: r, w, h => by
    unfold dq at h
    split at h
    · rename_i he
      cases h
      exact ⟨[],r,e.1,rfl,he⟩
    · obtain ⟨B,C,k,h1,h2⟩:=ml h
      exact ⟨e::B,C,k,by rw [h1]; rfl,h2⟩
theorem mo:∀ (k:Nat) {l:List Nat},l.Nodup→(∀ x ∈ l,x < k)→l.length≤k
  | 0, l, _, h => by
    cases l with
    | nil=>exact Nat.le_refl _
    | cons x r=>have:=h x (by simp); omega
  | k + 1, l, hn, h => by
    have h1:(l.erase k).length≤k:=mo k (hn.erase k) fun x hx=>by
      have h2:=(hn.mem_erase_iff).1 hx
      have:=h x h2.2
      have:=h2.1
      omega
    by_cases hk:k ∈ l
    · rw [List.length_erase_of_mem hk] at h1
      omega
    · rw [List.erase_of_not_mem hk] at h1
      omega

structure WaitR (M:List (Int×SL)) (Wm:List (Int×WE)) (W:WL) (k:Nat):Prop where
  que:∀ (i:Int) x,ah i M = some x→x.L = qOf i W∧x.g≤k
  mp:∀ t:Int,ah t Wm = dq t W
  kn:(aP Wm).Nodup
  nd:(W.map Prod.fst).Nodup
  ok:∀ e ∈ W,e.1 < 64∧0≤e.2.most
  has:∀ e ∈ W,∃ x,ah (e.2.sock:Int) M = some x
section
variable {M:List (Int×SL)} {Wm:List (Int×WE)} {W:WL} {k:Nat}
theorem WaitR.mono {k':Nat} (h:WaitR M Wm W k) (hk:k≤k'):WaitR M Wm W k' :=
  ⟨fun i x hx=>⟨(h.que i x hx).1,by have:=(h.que i x hx).2; omega⟩,h.mp,h.kn,h.nd,h.ok,h.has⟩
theorem WaitR.len (h:WaitR M Wm W k):W.length≤64:=by
  have:=mo 64 h.nd fun x hx=>by
    obtain ⟨e,he,rfl⟩:=List.mem_map.1 hx
    exact (h.ok e he).1
  simpa using this
/-- A socket changes, not its queue of tasks. -/
theorem WaitR.sock {i:Int} {x y:SL} (h:WaitR M Wm W k) (hx:ah i M = some x) (hL:y.L = x.L) (hg:y.g = x.g):WaitR (updP i y M) Wm W k:=by
  refine ⟨fun j z hz=>?_,h.mp,h.kn,h.nd,h.ok,fun e he=>?_⟩
  · rw [aS] at hz
    split at hz
    · rename_i e; subst e; cases hz; rw [hL,hg]; exact h.que _ x hx
    · exact h.que j z hz
  · obtain ⟨z,hz⟩:=h.has e he
    rw [aS]
    split
    · exact ⟨_,rfl⟩
    · exact ⟨z,hz⟩
theorem WaitR.del {A B:WL} {e:Nat×WE} {x y:SL} (h:WaitR M Wm (A++e::B) k) (hx:ah (e.2.sock:Int) M = some x) (hy:y.L = qOf (e.2.sock:Int) A++qOf (e.2.sock:Int) B) (hg:y.g = x.g) :
    WaitR (updP (e.2.sock:Int) y M) (delP (e.1:Int) Wm) (A++B) k:=by
  have hnd:=h.nd
  rw [List.map_append,List.map_cons,List.nodup_append] at hnd
  obtain ⟨n1,n2,n3⟩:=hnd
  have hno:∀ a ∈ A++B,a.1≠e.1:=by
    intro a ha q
    rcases List.mem_append.1 ha with ha | ha
    · exact n3 a.1 (List.mem_map_of_mem ha) e.1 (by simp) q
    · exact (List.nodup_cons.1 n2).1 (by rw [← q]; exact List.mem_map_of_mem ha)
  have hsub:∀ a ∈ A++B,a ∈ A++e::B:=fun a ha=>by
    rcases List.mem_append.1 ha with ha | ha
    · exact List.mem_append_left _ ha
    · exact List.mem_append_right _ (List.mem_cons_of_mem _ ha)
  refine ⟨fun j z hz=>?_,fun t=>?_,g7 h.kn,?_,fun a ha=>h.ok a (hsub a ha),fun a ha=>?_⟩
  · rw [aS] at hz
    split at hz
    · rename_i hj
      subst hj; cases hz
      exact ⟨by rw [hy,g9],by rw [hg]; exact (h.que _ x hx).2⟩
    · rename_i hj
      obtain ⟨q1,q2⟩:=h.que j z hz
      refine ⟨?_,q2⟩
      rw [q1,g9,g9,eT,if_neg (fun q=>hj q.symm),List.nil_append]
  · rw [fI _ _ h.kn]
    by_cases ht:t = (e.1:Int)
    · rw [if_pos ht,iL]
      intro a ha q
      exact hno a ha (by omega)
    · rw [if_neg ht,h.mp,fL,fL]
      conv=>lhs; rw [dq,if_neg (fun q=>ht q.symm)]
  · rw [List.map_append]
    exact List.nodup_append.2 ⟨n1,(List.nodup_cons.1 n2).2,fun a ha b hb=>n3 a ha b (List.mem_cons_of_mem _ hb)⟩
  · obtain ⟨z,hz⟩:=h.has a (hsub a ha)
    rw [aS]
    split
    · exact ⟨_,rfl⟩
    · exact ⟨z,hz⟩
theorem WaitR.add {t:Nat} {w:WE} {x y:SL} (h:WaitR M Wm W k) (hno:dq (t:Int) W = none) (ht:t < 64) (hm:0≤w.most) (hx:ah (w.sock:Int) M = some x) (hw:w.tick = x.g + 1) (hy:y.L = x.L++[(x.g + 1,(t:Int))]) (hg:y.g = x.g + 1) :
    WaitR (updP (w.sock:Int) y M) (updP (t:Int) w Wm) (W++[(t,w)]) (k + 1):=by
  have hnk:t ∉ W.map Prod.fst:=fun q=>by
    obtain ⟨a,ha,e⟩:=List.mem_map.1 q
    exact nK hno a ha (by rw [e])
  refine ⟨fun j z hz=>?_,fun u=>?_,j0 h.kn,?_,fun a ha=>?_,fun a ha=>?_⟩
  · rw [aS] at hz
    split at hz
    · rename_i hj
      subst hj; cases hz
      obtain ⟨q1,q2⟩:=h.que _ x hx
      refine ⟨?_,by omega⟩
      rw [hy,g9,q1,eT,if_pos rfl,hw]; rfl
    · rename_i hj
      obtain ⟨q1,q2⟩:=h.que j z hz
      refine ⟨?_,by omega⟩
      rw [q1,g9,eT,if_neg (fun q=>hj q.symm)]; simp [qOf]
  · rw [aS,fL,h.mp]
    by_cases htk:u = (t:Int)
    · rw [if_pos htk,htk,hno]; simp [dq]
    · rw [if_neg htk]
      cases dq u W with
      | some _=>rfl
      | none=>simp only [dq]; rw [if_neg (fun q=>htk q.symm)]
  · rw [List.map_append]
    refine List.nodup_append.2 ⟨h.nd,by simp,fun a ha b hb q=>?_⟩
    simp only [List.map_cons,List.map_nil,List.mem_singleton] at hb
    subst hb; subst q
    exact hnk ha
  · rcases List.mem_append.1 ha with ha | ha
    · exact h.ok a ha
    · simp only [List.mem_singleton] at ha
      subst ha
      exact ⟨ht,hm⟩
  · have:∃ z,ah (a.2.sock:Int) M = some z:=by
      rcases List.mem_append.1 ha with ha | ha
      · exact h.has a ha
      · simp only [List.mem_singleton] at ha
        subst ha; exact ⟨x,hx⟩
    obtain ⟨z,hz⟩:=this
    rw [aS]
    split
    · exact ⟨_,rfl⟩
    · exact ⟨z,hz⟩
end

/-! The first one that waits. -/
def popW (i:Int):WL→Option ((Nat×WE)×WL)
  | []=>none
  | w :: r => if (w.2.sock : Int) = i then some (w, r) else match popW i r with
    | none=>none
    | some (x,s)=>some (x,w::s)
theorem mq (i:Int):∀ W:WL,fstW i (W.map ee) = match popW i W with | none=>none | some (e,r)=>some (ee e,r.map ee)
  | []=>rfl
  | w :: r => by
    simp only [List.map_cons,fstW,popW]
    have:(ee w).sock = w.2.sock:=rfl
    rw [this]
    split
    · rfl
    · rw [mq i r]
      cases popW i r with
      | none=>rfl
      | some q=>rfl
theorem nL (i:Int):∀ {W:WL},popW i W = none→qOf i W = []
  | [],_=>rfl
  | w :: r, h => by
    simp only [popW] at h
    split at h
    · cases h
    · rename_i hne
      rw [eT,if_neg hne,List.nil_append]
      refine nL i ?_
      cases hp:popW i r with
      | none=>rfl
      | some q=>rw [hp] at h; cases h
theorem nM (i:Int):∀ {W:WL} {e:Nat×WE} {r:WL},popW i W = some (e,r)→∃ A B:WL,W = A++e::B∧r = A++B∧(e.2.sock:Int) = i∧qOf i A = []
  | [],_,_,h=>by cases h
  | w :: s, e, r, h => by
    simp only [popW] at h
    split at h
    · rename_i ht
      simp only [Option.some.injEq,Prod.mk.injEq] at h
      obtain ⟨rfl,rfl⟩:=h
      exact ⟨[],_,rfl,rfl,ht,rfl⟩
    · rename_i hne
      cases hp:popW i s with
      | none=>rw [hp] at h; cases h
      | some q =>
        obtain ⟨x,t⟩:=q
        rw [hp] at h
        simp only [Option.some.injEq,Prod.mk.injEq] at h
        obtain ⟨rfl,rfl⟩:=h
        obtain ⟨A,B,h1,h2,h3,h4⟩:=nM i hp
        exact ⟨w::A,B,by rw [h1]; rfl,by rw [h2]; rfl,h3,by rw [eT,if_neg hne,h4]; rfl⟩
theorem nN {t:Int}:∀ {W:WL},dq t W = none→delW t (W.map ee) = none
  | [],_=>rfl
  | e :: r, h => by
    unfold dq at h
    split at h
    · cases h
    · rename_i hne
      simp only [List.map_cons,delW]
      rw [if_neg (show ¬ ((ee e).task:Int) = t from hne),nN h]
theorem nO {t:Int} {e:Nat×WE} {B:WL} (he:(e.1:Int) = t):∀ {A:WL},(∀ a ∈ A,(a.1:Int)≠t)→delW t ((A++e::B).map ee) = some (ee e,(A++B).map ee)
  | [], _ => by
    simp only [List.nil_append,List.map_cons,delW]
    rw [if_pos (show ((ee e).task:Int) = t from he)]
  | a :: A, h => by
    simp only [List.cons_append,List.map_cons,delW]
    rw [if_neg (show ¬ ((ee a).task:Int) = t from h a (by simp)),nO he fun b hb=>h b (by simp [hb])]

/-- The net, as it is seen. -/
structure NetR (st:St) (n sid wid k:Nat) (R:NR) (F:List Nat):Prop where
  ex:∃ M Wm W,NetIs st n sid wid R.now M Wm∧SockR M R.socks k R.now∧WaitR M Wm W k∧W.map ee = R.ws∧∀ b ∈ cO n sid wid M,b ∈ F
  lt:R.now < 18446744073709551615
section
variable {st st':St} {n sid wid k:Nat} {R:NR} {F G:List Nat}
theorem NetR.mono {k':Nat} (hh:NetR st n sid wid k R F) (hk:k≤k') (hf:∀ b ∈ F,b ∈ G):NetR st n sid wid k' R G:=by
  obtain ⟨M,Wm,W,h1,h2,h3,h4,h5⟩:=hh.ex
  exact ⟨⟨M,Wm,W,h1,h2.mono hk (Nat.le_refl _),h3.mono hk,h4,fun b hb=>hf b (h5 b hb)⟩,hh.lt⟩
theorem NetR.kp (hh:NetR st n sid wid k R F) (hk:Kp st st' G) (hf:∀ b ∈ F,b ∉ G):NetR st' n sid wid k R F:=by
  obtain ⟨M,Wm,W,h1,h2,h3,h4,h5⟩:=hh.ex
  exact ⟨⟨M,Wm,W,h1.kp hk fun b hb=>hf b (h5 b hb),h2,h3,h4,h5⟩,hh.lt⟩
end
section
variable {st:St} {n sid wid now:Nat} {M:List (Int×SL)} {Wm:List (Int×WE)} {socks:List Sk} {k:Nat}
theorem SockR.some (h:SockR M socks k now) {i:Int} {x:SL} (hx:ah i M = Option.some x):atS i socks = Option.some x.S∧x.S ∈ socks∧(x.S.num:Int) = i:=by
  have:=h.at_ i
  rw [hx] at this
  exact ⟨this.symm,js this.symm⟩
theorem SockR.none (h:SockR M socks k now) {i:Int} (hx:ah i M = Option.none):atS i socks = Option.none:=by
  have:=h.at_ i
  rw [hx] at this
  exact this.symm
theorem SockR.has (h:SockR M socks k now) {S:Sk} (hS:S ∈ socks):∃ x,ah (S.num:Int) M = Option.some x∧x.S = S:=by
  have:=h.at_ (S.num:Int)
  rw [f9 h.srt hS] at this
  cases hx:ah (S.num:Int) M with
  | none=>rw [hx] at this; cases this
  | some x=>rw [hx] at this; exact ⟨x,rfl,Option.some.inj this⟩
/-- The number of the socket with an address. -/
theorem of_pure (hh:NetIs st n sid wid now M Wm) (hs:SockR M socks k now) (nm:ByteArray) (port:Int) :
    ao Go.Proofs.Try.prog n_f28 [.ptr n 0,adAV nm port] st (.lit (.int .i64 (match ofS nm port socks with | some S=>(S.num:Int) | none=>-1))):=by
  have hg:=hh.get
  refine al hmix k_f28 rfl rfl fun Q hQ=>?_
  unfold aFun c_f28 adAV
  simp (config:=KF) (disch:=omega) only [bZ,dz,a9,↓reduceIte,Nat.reduceEqDiff,Nat.reduceAdd,reduceCtorEq]
  rw [f28_7w]
  refine fg (A:=Nat) (fun a=>65 - a) (fun a=>⟨[(0,.ptr n 0),(3,.lptr 3 0),(7,.lit (.int .i64 (a:Nat)))],[(3,[.lit (.string nm),.lit (.int .i64 port)])]⟩) (fun _=>st)
    (fun a=>a≤64∧∀ T ∈ socks,T.num < a→¬ (T.nm = nm∧T.port = port)) 0 ⟨by omega,fun _ _ q=>absurd q (Nat.not_lt_zero _)⟩ (by simp (config:=KF) (disch:=omega) only [bZ,↓reduceIte,Nat.reduceEqDiff,reduceCtorEq]; exact Sf.le_refl _) rfl fun a ha K hK hKe hKr=>?_
  obtain ⟨h1,h2⟩:=ha
  simp (config:=KF) (disch:=omega) only [bZ,eg,↓reduceIte,Nat.reduceEqDiff,reduceCtorEq]
  refine aq (fun c1=>?_) (fun c1=>?_)
  · have ha64:a < 64:=by omega
    have hnext:(∀ T ∈ socks,T.num = a→¬ (T.nm = nm∧T.port = port))→∀ sf',(sf'.mask [0,3,7] [3]).le ⟨[(0,.ptr n 0),(3,.lptr 3 0),(7,.lit (.int .i64 ((a + 1:Nat):Nat)))],[(3,[.lit (.string nm),.lit (.int .i64 port)])]⟩→K .normal sf' st:=fun g sf' hs' =>
      hK (a + 1) sf' ⟨by omega,fun T hT hlt=>by
        by_cases e:T.num = a
        · exact g T hT e
        · exact h2 T hT (by omega)⟩ (by omega) hs'
    have hlk:=d5 hh (a:Int)
    cases hx:ah (a:Int) M with
    | none =>
      rw [hx] at hlk
      have hno:=hs.none hx
      simp (config:=KF) (disch:=omega) only [bZ,cX,bO,fo,cT,gJ,eA,fH,aM,ba,ak,AI.dst,bE,ap,g5,aV,aH,addA,aa,eO,aW,↓reduceIte,Nat.reduceEqDiff,reduceCtorEq,dx,hg,hlk]
      refine hnext (fun T hT e=>?_) _ (Sf.le_refl _)
      have:=f9 hs.srt hT
      rw [e,hno] at this; cases this
    | some x =>
      rw [hx] at hlk
      obtain ⟨q1,q2,q3⟩:=hs.some hx
      have hgx:=(hh.sub _ x hx).get
      have hch:=acmp_pure st x.S.nm nm x.S.port port
      unfold adAV at hch
      simp (config:=KF) (disch:=omega) only [bZ,cX,bO,fo,cT,gJ,bC,bu,bh,ez,aM,ba,AI.dst,bE,ap,g5,aV,aH,addA,aa,aW,id,↓reduceIte,Nat.reduceEqDiff,Nat.reduceAdd,Nat.reduceLeDiff,reduceCtorEq,hg,hlk,hgx]
      refine aj rfl e_f48 hch rfl ?_
      by_cases hc:cmpA x.S.nm x.S.port nm port = 0
      · have hc':=nV.1 hc
        simp (config:=KF) (disch:=omega) only [bZ,aI,AI.dst,↓reduceIte,Nat.reduceEqDiff,reduceCtorEq,hc]
        refine hKr _ _ ?_
        simp (config:=KF) (disch:=omega) only [bZ,aI,retI,↓reduceIte]
        rw [nY hs.srt q2 hc'.1 hc'.2 (fun T hT hlt=>h2 T hT (by omega))] at hQ
        have:=hQ st
        simp only [q3] at this
        exact this
      · simp (config:=KF) (disch:=omega) only [bZ,ak,AI.dst,eO,↓reduceIte,Nat.reduceEqDiff,reduceCtorEq,dx,hc]
        refine hnext (fun T hT e=>?_) _ (Sf.le_refl _)
        have:=f9 hs.srt hT
        rw [e,q1] at this
        cases this
        exact fun q=>hc (nV.2 q)
  · simp (config:=KF) (disch:=omega) only [bZ,b9,dw,↓reduceIte,Nat.reduceEqDiff,reduceCtorEq]
    refine hKe _ _ _ ?_
    simp (config:=KF) (disch:=omega) only [bZ,bA,retI,↓reduceIte,Int.reduceNeg]
    rw [ofS_none fun T hT=>h2 T hT (by have:=(hs.ok T hT).1; omega)] at hQ
    exact hQ _
end
end Go.Fx.YtgmeefljgbaanaaFx

