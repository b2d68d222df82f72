/- What the functions that the statement reaches compute: part 6. -/
import Derived.Test.YtgmeefljgbaanaaFxW5
namespace Go.Fx.YtgmeefljgbaanaaFx
open Go Go.Fx
attribute [local irreducible] aC runI aG aH

set_option maxRecDepth 100000
set_option maxHeartbeats 4000000

abbrev WL:=List (Nat×WE)
def cQ(t:Int):WL→Option WE
 | []=>none
 |e::r=>if(e.1:Int)=t then some e.2 else cQ t r
def qOf(i:Int)(W:WL):Qu:=W.flatMap fun e=>if(e.2.sock:Int)=i then [(e.2.tick,(e.1:Int))]else []
def de(e:Nat×WE):Wt:=⟨e.1,e.2.sock,e.2.most⟩
theorem gY(i:Int)(A B:WL):qOf i (A++B)=qOf i A++qOf i B:=by simp[qOf]
theorem df(i:Int)(e:Nat×WE)(B:WL):qOf i (e::B)=(if(e.2.sock:Int)=i then [(e.2.tick,(e.1:Int))]else [])++qOf i B:=rfl
theorem qOf_nil{i:Int}{A:WL}(h:∀a∈A,(a.2.sock:Int)≠i):qOf i A= []:=by
 unfold qOf
 rw[List.flatMap_eq_nil_iff]
 intro a ha
 rw[if_neg (h a ha)]
theorem qOf_len(i:Int):∀W:WL,(qOf i W).length≤W.length
 | []=>Nat.le_refl _
 | e :: r => by
   have:=qOf_len i r
   rw[df,List.length_append,List.length_cons]
   split<;>simp<;>omega
theorem gJ(t:Int)(B:WL):∀A:WL,cQ t (A++B)=match cQ t A with|some x=>some x|none=>cQ t B
 | []=>rfl
 | e :: r => by
   simp only[List.cons_append,cQ]
   split
   ·rfl
   ·exact gJ t B r
theorem gZ{t:Int}:∀{A:WL},(∀a∈A,(a.1:Int)≠t)→cQ t A=none
 | [],_=>rfl
 | e :: r, h => by
   unfold cQ
   rw[if_neg (h e (by simp))]
   exact gZ fun a ha=>h a (by simp[ha])
theorem pU{t:Int}:∀{A:WL},cQ t A=none→∀a∈A,(a.1:Int)≠t
 | [],_,_,ha=>by cases ha
 | e :: r, h, a, ha => by
   unfold cQ at h
   split at h
   ·cases h
   ·rename_i hne
    rcases List.mem_cons.1 ha with rfl|ha
    ·exact hne
    ·exact pU h a ha
theorem jY{t:Int}:∀{A:WL} {w:WE},cQ t A=some w→∃(B C:WL) (k:Nat),A=B++(k,w)::C∧(k:Int)=t
 | [],_,h=>by cases h
 | e :: r, w, h => by
   unfold cQ at h
   split at h
   ·rename_i he
    cases h
    exact⟨[],r,e.1,rfl,he⟩
   ·obtain⟨B,C,k,h1,h2⟩:=jY h
    exact⟨e::B,C,k,by rw[h1];rfl,h2⟩
theorem oh:∀(k:Nat) {l:List Nat},l.Nodup→(∀x∈l,x<k)→l.length≤k
 | 0, l, _, h => by
   cases l with
   |nil=>exact Nat.le_refl _
   |cons x r=>have:=h x (by simp);omega
 | k + 1, l, hn, h => by
   have h1:(l.erase k).length≤k:=oh k (hn.erase k) fun x hx=>by
    have h2:=(hn.mem_erase_iff).1 hx
    have:=h x h2.2
    have:=h2.1
    omega
   by_cases hk:k∈l
   ·rw[List.length_erase_of_mem hk]at h1
    omega
   ·rw[List.erase_of_not_mem hk]at h1
    omega

structure WaitR (M:List (Int×SL)) (Wm:List (Int×WE)) (W:WL) (k:Nat):Prop where
 que:∀(i:Int) x,aj i M=some x→x.L=qOf i W∧x.g≤k
 mp:∀t:Int,aj t Wm=cQ t W
 kn:(aV Wm).Nodup
 nd:(W.map Prod.fst).Nodup
 ok:∀e∈W,e.1<64∧0≤e.2.most
 has:∀e∈W,∃x,aj (e.2.sock:Int) M=some x
section
variable {M:List (Int×SL)} {Wm:List (Int×WE)} {W:WL} {k:Nat}
theorem WaitR.mono{k':Nat}(h:WaitR M Wm W k)(hk:k≤k'):WaitR M Wm W k' :=
 ⟨fun i x hx=>⟨(h.que i x hx).1,by have:=(h.que i x hx).2;omega⟩,h.mp,h.kn,h.nd,h.ok,h.has⟩
theorem WaitR.len(h:WaitR M Wm W k):W.length≤64:=by
 have:=oh 64 h.nd fun x hx=>by
  obtain⟨e,he,rfl⟩:=List.mem_map.1 hx
  exact(h.ok e he).1
 simpa using this
theorem WaitR.sock{i:Int}{x y:SL}(h:WaitR M Wm W k)(hx:aj i M=some x)(hL:y.L=x.L)(hg:y.g=x.g):WaitR (updP i y M) Wm W k:=by
 refine⟨fun j z hz=>?_,h.mp,h.kn,h.nd,h.ok,fun e he=>?_⟩
 ·rw[aZ]at hz
  split at hz
  ·rename_i e;subst e;cases hz;rw[hL,hg];exact h.que _ x hx
  ·exact h.que j z hz
 ·obtain⟨z,hz⟩:=h.has e he
  rw[aZ]
  split
  ·exact⟨_,rfl⟩
  ·exact⟨z,hz⟩
theorem WaitR.del{A B:WL}{e:Nat×WE}{x y:SL}(h:WaitR M Wm (A++e::B) k)(hx:aj (e.2.sock:Int) M=some x)(hy:y.L=qOf (e.2.sock:Int) A++qOf (e.2.sock:Int) B)(hg:y.g=x.g) :
  WaitR (updP (e.2.sock:Int) y M) (delP (e.1:Int) Wm) (A++B) k:=by
 have hnd:=h.nd
 rw[List.map_append,List.map_cons,List.nodup_append]at hnd
 obtain⟨n1,n2,n3⟩:=hnd
 have hno:∀a∈A++B,a.1≠e.1:=by
  intro a ha q
  rcases List.mem_append.1 ha with ha|ha
  ·exact n3 a.1 (List.mem_map_of_mem ha) e.1 (by simp) q
  ·exact(List.nodup_cons.1 n2).1 (by rw[←q];exact List.mem_map_of_mem ha)
 have hsub:∀a∈A++B,a∈A++e::B:=fun a ha=>by
  rcases List.mem_append.1 ha with ha|ha
  ·exact List.mem_append_left _ ha
  ·exact List.mem_append_right _ (List.mem_cons_of_mem _ ha)
 refine⟨fun j z hz=>?_,fun t=>?_,jc h.kn,?_,fun a ha=>h.ok a (hsub a ha),fun a ha=>?_⟩
 ·rw[aZ]at hz
  split at hz
  ·rename_i hj
   subst hj;cases hz
   exact⟨by rw[hy,gY],by rw[hg];exact(h.que _ x hx).2⟩
  ·rename_i hj
   obtain⟨q1,q2⟩:=h.que j z hz
   refine⟨?_,q2⟩
   rw[q1,gY,gY,df,if_neg (fun q=>hj q.symm),List.nil_append]
 ·rw[ey _ _ h.kn]
  by_cases ht:t=(e.1:Int)
  ·rw[if_pos ht,gZ]
   intro a ha q
   exact hno a ha (by omega)
  ·rw[if_neg ht,h.mp,gJ,gJ]
   conv=>lhs;rw[cQ,if_neg (fun q=>ht q.symm)]
 ·rw[List.map_append]
  exact List.nodup_append.2 ⟨n1,(List.nodup_cons.1 n2).2,fun a ha b hb=>n3 a ha b (List.mem_cons_of_mem _ hb)⟩
 ·obtain⟨z,hz⟩:=h.has a (hsub a ha)
  rw[aZ]
  split
  ·exact⟨_,rfl⟩
  ·exact⟨z,hz⟩
theorem WaitR.add{t:Nat}{w:WE}{x y:SL}(h:WaitR M Wm W k)(hno:cQ (t:Int) W=none)(ht:t<64)(hm:0≤w.most)(hx:aj (w.sock:Int) M=some x)(hw:w.tick=x.g+1)(hy:y.L=x.L++[(x.g+1,(t:Int))])(hg:y.g=x.g+1) :
  WaitR (updP (w.sock:Int) y M) (updP (t:Int) w Wm) (W++[(t,w)]) (k+1):=by
 have hnk:t ∉ W.map Prod.fst:=fun q=>by
  obtain⟨a,ha,e⟩:=List.mem_map.1 q
  exact pU hno a ha (by rw[e])
 refine⟨fun j z hz=>?_,fun u=>?_,lB h.kn,?_,fun a ha=>?_,fun a ha=>?_⟩
 ·rw[aZ]at hz
  split at hz
  ·rename_i hj
   subst hj;cases hz
   obtain⟨q1,q2⟩:=h.que _ x hx
   refine⟨?_,by omega⟩
   rw[hy,gY,q1,df,if_pos rfl,hw];rfl
  ·rename_i hj
   obtain⟨q1,q2⟩:=h.que j z hz
   refine⟨?_,by omega⟩
   rw[q1,gY,df,if_neg (fun q=>hj q.symm)];simp[qOf]
 ·rw[aZ,gJ,h.mp]
  by_cases htk:u=(t:Int)
  ·rw[if_pos htk,htk,hno];simp[cQ]
  ·rw[if_neg htk]
   cases cQ u W with
   |some _=>rfl
   |none=>simp only[cQ];rw[if_neg (fun q=>htk q.symm)]
 ·rw[List.map_append]
  refine List.nodup_append.2 ⟨h.nd,by simp,fun a ha b hb q=>?_⟩
  simp only[List.map_cons,List.map_nil,List.mem_singleton]at hb
  subst hb;subst q
  exact hnk ha
 ·rcases List.mem_append.1 ha with ha|ha
  ·exact h.ok a ha
  ·simp only[List.mem_singleton]at ha
   subst ha
   exact⟨ht,hm⟩
 ·have:∃z,aj (a.2.sock:Int) M=some z:=by
   rcases List.mem_append.1 ha with ha|ha
   ·exact h.has a ha
   ·simp only[List.mem_singleton]at ha
    subst ha;exact⟨x,hx⟩
  obtain⟨z,hz⟩:=this
  rw[aZ]
  split
  ·exact⟨_,rfl⟩
  ·exact⟨z,hz⟩
end

def popW(i:Int):WL→Option ((Nat×WE)×WL)
 | []=>none
 | w :: r => if (w.2.sock : Int) = i then some (w, r) else match popW i r with
   |none=>none
   |some (x,s)=>some (x,w::s)
theorem ol(i:Int):∀W:WL,fstW i (W.map de)=match popW i W with|none=>none|some (e,r)=>some (de e,r.map de)
 | []=>rfl
 | w :: r => by
   simp only[List.map_cons,fstW,popW]
   have:(de w).sock=w.2.sock:=rfl
   rw[this]
   split
   ·rfl
   ·rw[ol i r]
    cases popW i r with
    |none=>rfl
    |some q=>rfl
theorem pW(i:Int):∀{W:WL},popW i W=none→qOf i W= []
 | [],_=>rfl
 | w :: r, h => by
   simp only[popW]at h
   split at h
   ·cases h
   ·rename_i hne
    rw[df,if_neg hne,List.nil_append]
    refine pW i ?_
    cases hp:popW i r with
    |none=>rfl
    |some q=>rw[hp]at h;cases h
theorem pX(i:Int):∀{W:WL} {e:Nat×WE} {r:WL},popW i W=some (e,r)→∃A B:WL,W=A++e::B∧r=A++B∧(e.2.sock:Int)=i∧qOf i A= []
 | [],_,_,h=>by cases h
 | w :: s, e, r, h => by
   simp only[popW]at h
   split at h
   ·rename_i ht
    simp only[Option.some.injEq,Prod.mk.injEq]at h
    obtain⟨rfl,rfl⟩:=h
    exact⟨[],_,rfl,rfl,ht,rfl⟩
   ·rename_i hne
    cases hp:popW i s with
    |none=>rw[hp]at h;cases h
    | some q =>
      obtain⟨x,t⟩:=q
      rw[hp]at h
      simp only[Option.some.injEq,Prod.mk.injEq]at h
      obtain⟨rfl,rfl⟩:=h
      obtain⟨A,B,h1,h2,h3,h4⟩:=pX i hp
      exact⟨w::A,B,by rw[h1];rfl,by rw[h2];rfl,h3,by rw[df,if_neg hne,h4];rfl⟩
theorem lJ{t:Int}:∀{W:WL},cQ t W=none→delW t (W.map de)=none
 | [],_=>rfl
 | e :: r, h => by
   unfold cQ at h
   split at h
   ·cases h
   ·rename_i hne
    simp only[List.map_cons,delW]
    rw[if_neg (show ¬((de e).task:Int)=t from hne),lJ h]
theorem lK{t:Int}{e:Nat×WE}{B:WL}(he:(e.1:Int)=t):∀{A:WL},(∀a∈A,(a.1:Int)≠t)→delW t ((A++e::B).map de)=some (de e,(A++B).map de)
 | [], _ => by
   simp only[List.nil_append,List.map_cons,delW]
   rw[if_pos (show((de e).task:Int)=t from he)]
 | a :: A, h => by
   simp only[List.cons_append,List.map_cons,delW]
   rw[if_neg (show ¬((de a).task:Int)=t from h a (by simp)),lK he fun b hb=>h b (by simp[hb])]

structure NetR (st:St) (n sid wid k:Nat) (R:NR) (F:List Nat):Prop where
 ex:∃M Wm W,NetIs st n sid wid R.now M Wm∧SockR M R.socks k R.now∧WaitR M Wm W k∧W.map de=R.ws∧∀b∈ck n sid wid M,b∈F
 lt:R.now<18446744073709551615
section
variable {st st':St} {n sid wid k:Nat} {R:NR} {F G:List Nat}
theorem NetR.mono{k':Nat}(hh:NetR st n sid wid k R F)(hk:k≤k')(hf:∀b∈F,b∈G):NetR st n sid wid k' R G:=by
 obtain⟨M,Wm,W,h1,h2,h3,h4,h5⟩:=hh.ex
 exact⟨⟨M,Wm,W,h1,h2.mono hk (Nat.le_refl _),h3.mono hk,h4,fun b hb=>hf b (h5 b hb)⟩,hh.lt⟩
theorem NetR.kp(hh:NetR st n sid wid k R F)(hk:Kp st st' G)(hf:∀b∈F,b ∉ G):NetR st' n sid wid k R F:=by
 obtain⟨M,Wm,W,h1,h2,h3,h4,h5⟩:=hh.ex
 exact⟨⟨M,Wm,W,h1.kp hk fun b hb=>hf b (h5 b hb),h2,h3,h4,h5⟩,hh.lt⟩
end
section
variable {st:St} {n sid wid now:Nat} {M:List (Int×SL)} {Wm:List (Int×WE)} {socks:List Sk} {k:Nat}
theorem SockR.some(h:SockR M socks k now){i:Int}{x:SL}(hx:aj i M=Option.some x):atS i socks=Option.some x.S∧x.S∈socks∧(x.S.num:Int)=i:=by
 have:=h.at_ i
 rw[hx]at this
 exact⟨this.symm,kN this.symm⟩
theorem SockR.none(h:SockR M socks k now){i:Int}(hx:aj i M=Option.none):atS i socks=Option.none:=by
 have:=h.at_ i
 rw[hx]at this
 exact this.symm
theorem SockR.has(h:SockR M socks k now){S:Sk}(hS:S∈socks):∃x,aj (S.num:Int) M=Option.some x∧x.S=S:=by
 have:=h.at_ (S.num:Int)
 rw[fi h.srt hS]at this
 cases hx:aj (S.num:Int) M with
 |none=>rw[hx]at this;cases this
 |some x=>rw[hx]at this;exact⟨x,rfl,Option.some.inj this⟩
theorem of_pure(hh:NetIs st n sid wid now M Wm)(hs:SockR M socks k now)(nm:ByteArray)(port:Int) :
  az Go.Proofs.Try.prog n_f28 [.ptr n 0,adAV nm port] st (.lit (.int .i64 (match ofS nm port socks with|some S=>(S.num:Int)|none=>-1))):=by
 have hg:=hh.get
 refine al hmix k_f28 rfl rfl fun Q hQ=>?_
 unfold aFun c_f28 adAV
 simp(config:=KF) (disch:=omega)only[bZ,↓reduceIte,Nat.reduceEqDiff,Nat.reduceAdd,reduceCtorEq]
 rw[f28_7w]
 refine bB (A:=Nat) (fun a=>65-a) (fun a=>⟨[(0,.ptr n 0),(3,.lptr 3 0),(7,.lit (.int .i64 (a:Nat)))],[(3,[.lit (.string nm),.lit (.int .i64 port)])]⟩) (fun _=>st)
  (fun a=>a≤64∧∀T∈socks,T.num<a→¬(T.nm=nm∧T.port=port)) 0 ⟨by omega,fun _ _ q=>absurd q (Nat.not_lt_zero _)⟩ (by simp(config:=KF) (disch:=omega)only[bZ,↓reduceIte,Nat.reduceEqDiff,reduceCtorEq];exact Sf.le_refl _) rfl fun a ha K hK hKe hKr=>?_
 obtain⟨h1,h2⟩:=ha
 simp(config:=KF) (disch:=omega)only[bZ,↓reduceIte,Nat.reduceEqDiff,reduceCtorEq]
 refine aA (fun c1=>?_) (fun c1=>?_)
 ·have ha64:a<64:=by omega
  have hnext:(∀T∈socks,T.num=a→¬(T.nm=nm∧T.port=port))→∀sf',(sf'.mask [0,3,7] [3]).le ⟨[(0,.ptr n 0),(3,.lptr 3 0),(7,.lit (.int .i64 ((a+1:Nat):Nat)))],[(3,[.lit (.string nm),.lit (.int .i64 port)])]⟩→K .normal sf' st:=fun g sf' hs' =>
   hK (a+1) sf' ⟨by omega,fun T hT hlt=>by
    by_cases e:T.num=a
    ·exact g T hT e
    ·exact h2 T hT (by omega)⟩ (by omega) hs'
  have hlk:=dP hh (a:Int)
  cases hx:aj (a:Int) M with
  | none =>
    rw[hx]at hlk
    have hno:=hs.none hx
    simp(config:=KF) (disch:=omega)only[bZ,aW,dB,AI.dst,bt,au,mw,aU,addA,aa,↓reduceIte,Nat.reduceEqDiff,reduceCtorEq,hg,hlk]
    refine hnext (fun T hT e=>?_) _ (Sf.le_refl _)
    have:=fi hs.srt hT
    rw[e,hno]at this;cases this
  | some x =>
    rw[hx]at hlk
    obtain⟨q1,q2,q3⟩:=hs.some hx
    have hgx:=(hh.sub _ x hx).get
    have hch:=acmp_pure st x.S.nm nm x.S.port port
    unfold adAV at hch
    simp(config:=KF) (disch:=omega)only[bZ,bH,c9,AI.dst,bt,au,mw,aU,addA,aa,id,↓reduceIte,Nat.reduceEqDiff,Nat.reduceAdd,Nat.reduceLeDiff,reduceCtorEq,hg,hlk,hgx]
    refine ag rfl e_f48 hch rfl ?_
    by_cases hc:cmpA x.S.nm x.S.port nm port=0
    ·have hc':=pR.1 hc
     simp(config:=KF) (disch:=omega)only[bZ,AI.dst,↓reduceIte,Nat.reduceEqDiff,reduceCtorEq,hc]
     refine hKr _ _ ?_
     simp(config:=KF) (disch:=omega)only[bZ,retI,↓reduceIte]
     rw[pT hs.srt q2 hc'.1 hc'.2 (fun T hT hlt=>h2 T hT (by omega))]at hQ
     have:=hQ st
     simp only[q3]at this
     exact this
    ·simp(config:=KF) (disch:=omega)only[bZ,AI.dst,↓reduceIte,Nat.reduceEqDiff,reduceCtorEq,hc]
     refine hnext (fun T hT e=>?_) _ (Sf.le_refl _)
     have:=fi hs.srt hT
     rw[e,q1]at this
     cases this
     exact fun q=>hc (pR.2 q)
 ·simp(config:=KF) (disch:=omega)only[bZ,↓reduceIte,Nat.reduceEqDiff,reduceCtorEq]
  refine hKe _ _ _ ?_
  simp(config:=KF) (disch:=omega)only[bZ,retI,↓reduceIte,Int.reduceNeg]
  rw[og fun T hT=>h2 T hT (by have:=(hs.ok T hT).1;omega)]at hQ
  exact hQ _
end
end Go.Fx.YtgmeefljgbaanaaFx

namespace Go.Fx.YtgmeefljgbaanaaFx
open Go Go.Fx
attribute [local irreducible] aC runI aG aH

set_option maxRecDepth 100000
set_option maxHeartbeats 4000000

def atA(o:Option SL):AV:=match o with
 |none=>.agg [.lit (.string ⟨#[]⟩),.lit (.int .i64 0),.lit (.int .i64 0),.lit (.int .i64 0),.lit (.int .i64 0),.lit (.int .u64 0),.lit (.slice none 0 0),.lit (.int .i64 0),.lit (.int .i64 0),.lit (.int .i64 0),.lit (.pointer none)]
 |some x=>.agg [.lit (.string x.S.nm),.lit (.int .i64 x.S.port),.lit (.int .i64 (x.S.pks:Nat)),.lit (.int .i64 (x.S.byt:Nat)),.lit (.int .i64 x.S.pol),.lit (.int .u64 (x.S.life:Nat)),x.qv,.lit (.int .i64 (used x.S.q:Nat)),.lit (.int .i64 (x.S.dr:Nat)),.lit (.int .i64 (x.S.old:Nat)),.ptr x.w 0]
theorem qzeroN_pure(st:St):az Go.Proofs.Try.prog n_f58 [.lit (.pointer none)] st (.lit (.bool true)):=by
 refine al hmix k_f58 rfl rfl fun Q hQ=>?_
 unfold aFun c_f58
 simp(config:=KF) (disch:=omega)only[bZ,retI,AI.dst,bE,aU,↓reduceIte,Nat.reduceEqDiff,reduceCtorEq]
 exact hQ _
theorem qlenN_pure(st:St):az Go.Proofs.Try.prog n_f40 [.lit (.pointer none)] st (.lit (.int .i64 0)):=by
 refine al hmix k_f40 rfl rfl fun Q hQ=>?_
 unfold aFun c_f40
 simp(config:=KF) (disch:=omega)only[bZ,id,↓reduceIte,reduceCtorEq]
 refine ag rfl e_f58 (qzeroN_pure st) rfl ?_
 simp(config:=KF) (disch:=omega)only[bZ,retI,↓reduceIte,Nat.reduceEqDiff,reduceCtorEq]
 exact hQ _
section
variable {st:St} {n sid wid now:Nat} {M:List (Int×SL)} {Wm:List (Int×WE)} {W:WL} {socks:List Sk} {k:Nat}
theorem kP(hh:NetIs st n sid wid now M Wm)(i:Int):az Go.Proofs.Try.prog n_f39 [.ptr n 0,.lit (.int .i64 i)] st (atA (aj i M)):=by
 have hg:=hh.get
 have hlk:=dP hh i
 refine al hmix k_f39 rfl rfl fun Q hQ=>?_
 unfold aFun c_f39
 simp(config:=KF) (disch:=omega)only[bZ,id,↓reduceIte,Nat.reduceEqDiff,reduceCtorEq]
 refine ag rfl e_f26 (cP hh) rfl ?_
 cases hx:aj i M with
 | none =>
   rw[hx]at hlk hQ
   simp(config:=KF) (disch:=omega)only[bZ,retI,AI.dst,bt,au,af,bE,aU,addA,aa,↓reduceIte,Nat.reduceEqDiff,Nat.reduceAdd,Nat.reduceLeDiff,reduceCtorEq,hg,hlk]
   exact hQ _
 | some x =>
   rw[hx]at hlk hQ
   have hgx:=(hh.sub _ x hx).get
   obtain⟨v1,v2,v3,v4,v5,v6,v7,v8⟩:=(hh.sub _ x hx).qb.facts
   simp(config:=KF) (disch:=omega)only[bZ,retI,AI.dst,bt,au,af,bE,aU,addA,aa,own1_ptr,eK,↓reduceIte,Nat.reduceEqDiff,Nat.reduceAdd,Nat.reduceLeDiff,reduceCtorEq,hg,hlk,hgx,v2,v4]
   exact hQ _
def lenO(o:Option Sk):Int:=match o with|none=>0|some S=>(S.q.length:Nat)
def drO(o:Option Sk):Int:=match o with|none=>0|some S=>(S.dr:Nat)
def oldO(o:Option Sk):Int:=match o with|none=>0|some S=>(S.old:Nat)
def ii(i:Int)(ws:List Wt):Nat:=(ws.filter fun w=>decide ((w.sock:Int)=i)).length
theorem pY(hh:NetIs st n sid wid now M Wm)(hs:SockR M socks k now)(i:Int):az Go.Proofs.Try.prog n_f15 [.ptr n 0,.lit (.int .i64 i)] st (.lit (.int .i64 (lenO (atS i socks)))):=by
 refine al hmix k_f15 rfl rfl fun Q hQ=>?_
 unfold aFun c_f15
 simp(config:=KF) (disch:=omega)only[bZ,id,↓reduceIte,Nat.reduceEqDiff,reduceCtorEq]
 refine ag rfl e_f39 (kP hh i) rfl ?_
 cases hx:aj i M with
 | none =>
   rw[hs.none hx]at hQ
   simp(config:=KF) (disch:=omega)only[bZ,retI,eT,eJ,lenI,↓reduceIte,Nat.reduceEqDiff,reduceCtorEq,atA]
   exact hQ _
 | some x =>
   rw[(hs.some hx).1]at hQ
   obtain⟨v1,v2,v3,v4,v5,v6,v7,v8⟩:=(hh.sub _ x hx).qb.facts
   simp(config:=KF) (disch:=omega)only[bZ,retI,eT,eJ,↓reduceIte,Nat.reduceEqDiff,reduceCtorEq,atA,v1,v8]
   exact hQ _
theorem ndr_pure(hh:NetIs st n sid wid now M Wm)(hs:SockR M socks k now)(i:Int):az Go.Proofs.Try.prog n_f17 [.ptr n 0,.lit (.int .i64 i)] st (.lit (.int .i64 (drO (atS i socks)))):=by
 refine al hmix k_f17 rfl rfl fun Q hQ=>?_
 unfold aFun c_f17
 simp(config:=KF) (disch:=omega)only[bZ,id,↓reduceIte,Nat.reduceEqDiff,reduceCtorEq]
 refine ag rfl e_f39 (kP hh i) rfl ?_
 cases hx:aj i M with
 | none =>
   rw[hs.none hx]at hQ
   simp(config:=KF) (disch:=omega)only[bZ,retI,eT,eJ,↓reduceIte,Nat.reduceEqDiff,reduceCtorEq,atA]
   exact hQ _
 | some x =>
   rw[(hs.some hx).1]at hQ
   obtain⟨v1,v2,v3,v4,v5,v6,v7,v8⟩:=(hh.sub _ x hx).qb.facts
   simp(config:=KF) (disch:=omega)only[bZ,retI,eT,eJ,↓reduceIte,Nat.reduceEqDiff,reduceCtorEq,atA]
   exact hQ _
theorem pZ(hh:NetIs st n sid wid now M Wm)(hs:SockR M socks k now)(i:Int):az Go.Proofs.Try.prog n_f18 [.ptr n 0,.lit (.int .i64 i)] st (.lit (.int .i64 (oldO (atS i socks)))):=by
 refine al hmix k_f18 rfl rfl fun Q hQ=>?_
 unfold aFun c_f18
 simp(config:=KF) (disch:=omega)only[bZ,id,↓reduceIte,Nat.reduceEqDiff,reduceCtorEq]
 refine ag rfl e_f39 (kP hh i) rfl ?_
 cases hx:aj i M with
 | none =>
   rw[hs.none hx]at hQ
   simp(config:=KF) (disch:=omega)only[bZ,retI,eT,eJ,↓reduceIte,Nat.reduceEqDiff,reduceCtorEq,atA]
   exact hQ _
 | some x =>
   rw[(hs.some hx).1]at hQ
   obtain⟨v1,v2,v3,v4,v5,v6,v7,v8⟩:=(hh.sub _ x hx).qb.facts
   simp(config:=KF) (disch:=omega)only[bZ,retI,eT,eJ,↓reduceIte,Nat.reduceEqDiff,reduceCtorEq,atA]
   exact hQ _
theorem om(i:Int):∀W:WL,ii i (W.map de)=(qOf i W).length
 | []=>rfl
 | e :: r => by
   have ih:=om i r
   unfold ii at ih ⊢
   rw[List.map_cons,List.filter_cons,df,List.length_append,←ih]
   have:(de e).sock=e.2.sock:=rfl
   rw[this]
   split
   ·rename_i h;rw[if_pos (of_decide_eq_true h)];simp;omega
   ·rename_i h;rw[if_neg (fun q=>h (decide_eq_true q))];simp
theorem nwait_pure(hh:NetIs st n sid wid now M Wm)(hw:WaitR M Wm W k)(i:Int):az Go.Proofs.Try.prog n_f16 [.ptr n 0,.lit (.int .i64 i)] st (.lit (.int .i64 (ii i (W.map de):Nat))):=by
 refine al hmix k_f16 rfl rfl fun Q hQ=>?_
 unfold aFun c_f16
 simp(config:=KF) (disch:=omega)only[bZ,id,↓reduceIte,Nat.reduceEqDiff,reduceCtorEq]
 refine ag rfl e_f39 (kP hh i) rfl ?_
 cases hx:aj i M with
 | none =>
   have h0:ii i (W.map de)=0:=by
    rw[om,qOf_nil fun e he q=>?_]
    ·rfl
    ·obtain⟨z,hz⟩:=hw.has e he
     rw[q,hx]at hz;cases hz
   rw[h0]at hQ
   simp(config:=KF) (disch:=omega)only[bZ,eT,eJ,id,↓reduceIte,Nat.reduceEqDiff,reduceCtorEq,atA]
   refine ag rfl e_f40 (qlenN_pure st) rfl ?_
   simp(config:=KF) (disch:=omega)only[bZ,retI,↓reduceIte,Nat.reduceEqDiff,reduceCtorEq]
   exact hQ _
 | some x =>
   have hxi:=hh.sub _ x hx
   have hL:=(hw.que _ x hx).1
   obtain⟨v1,v2,v3,v4,v5,v6,v7,v8⟩:=hxi.qb.facts
   rw[om,←hL]at hQ
   simp(config:=KF) (disch:=omega)only[bZ,eT,eJ,id,↓reduceIte,Nat.reduceEqDiff,reduceCtorEq,atA]
   refine ag rfl e_f40 (qlen_pure hxi.wq) rfl ?_
   simp(config:=KF) (disch:=omega)only[bZ,retI,↓reduceIte,Nat.reduceEqDiff,reduceCtorEq]
   exact hQ _
theorem nnow_pure(hh:NetIs st n sid wid now M Wm):az Go.Proofs.Try.prog n_f25 [.ptr n 0] st (.lit (.int .u64 (now:Nat))):=by
 have hg:=hh.get
 refine al hmix k_f25 rfl rfl fun Q hQ=>?_
 unfold aFun c_f25
 simp(config:=KF) (disch:=omega)only[bZ,id,↓reduceIte,reduceCtorEq]
 refine ag rfl e_f26 (cP hh) rfl ?_
 simp(config:=KF) (disch:=omega)only[bZ,retI,au,addA,aa,↓reduceIte,Nat.reduceEqDiff,reduceCtorEq,hg]
 exact hQ _
end

def RcV(P:Nat→Prop)(st:St)(e:AV)(r:Rc):Prop:=∃w,e=rcAV r.task r.nm r.port w r.at_ r.cut r.err∧DV w st r.data∧∀b∈ah w,P b
def RcsV(P:Nat→Prop)(st:St):List AV→List Rc→Prop
 | [],[]=>True
 |e::es,r::rs=>RcV P st e r∧RcsV P st es rs
 |_,_=>False
def AllV(P:Nat→Prop)(o:Bool)(v:AV)(st:St)(l:List Rc):Prop:=(v= .lit (.slice none 0 0)∧l= [])∨∃es,v= .sl o 7 es∧RcsV P st es l
def NP(st st':St)(n sid wid k:Nat)(F:List Nat)(R':NR)(F':List Nat):Prop:=NetR st' n sid wid (k+1) R' F'∧Kp st st' F∧∀b∈F',(b∈F∨st.boxes.length≤b)∧b<st'.boxes.length
theorem NetR.lts{st:St}{n sid wid k:Nat}{R:NR}{F:List Nat}(hh:NetR st n sid wid k R F):∃F',(∀b∈F',b∈F∧b<st.boxes.length)∧NetR st n sid wid k R F':=by
 obtain⟨M,Wm,W,h1,h2,h3,h4,h5⟩:=hh.ex
 exact⟨ck n sid wid M,fun b hb=>⟨h5 b hb,h1.lts b hb⟩,⟨⟨M,Wm,W,h1,h2,h3,h4,fun _ hb=>hb⟩,hh.lt⟩⟩
theorem NP.of{st st':St}{n sid wid k:Nat}{F F':List Nat}{R':NR}(h:NetR st' n sid wid (k+1) R' F')(hk:Kp st st' F)(hf:∀b∈F',b∈F∨st.boxes.length≤b):∃F'',NP st st' n sid wid k F R' F''∧∀b∈F'',b∈F':=by
 obtain⟨F'',h1,h2⟩:=h.lts
 exact⟨F'',⟨h2,hk,fun b hb=>⟨hf b (h1 b hb).1,(h1 b hb).2⟩⟩,fun b hb=>(h1 b hb).1⟩
theorem mD{i:Int}{S:Sk}:∀{l:List Sk},atS i l=some S→∀f:Sk→Sk,f S=S→modS i f l=l
 | [],_,_,_=>rfl
 | T :: r, h, f, hf => by
   unfold atS at h
   unfold modS
   split
   ·rename_i e;rw[if_pos e]at h;cases h;rw[hf]
   ·rename_i e;rw[if_neg e]at h;rw[mD h f hf]
theorem SockR.set{M:List (Int×SL)}{socks:List Sk}{k k' now:Nat}(h:SockR M socks k now)(hk:k≤k'){i:Int}{x y:SL}(hx:aj i M=Option.some x){f:Sk→Sk}(hn:∀S,(f S).num=S.num)(hy:y.S=f x.S)
  (hok:(f x.S).dr+(f x.S).old+(f x.S).q.length≤k'∧(f x.S).pol=x.S.pol∧(f x.S).nm=x.S.nm∧(f x.S).life=x.S.life∧∀p∈(f x.S).q,p.data.length≤2048∧p.at_≤now):SockR (updP i y M) (modS i f socks) k' now:=by
 obtain⟨q1,q2,q3⟩:=h.some hx
 refine⟨fun j=>?_,?_,?_,fun S hS=>?_⟩
 ·rw[aZ,qU hn]
  split
  ·rename_i e
   rw[q1];simp[hy]
  ·exact h.at_ j
 ·have:=congrArg List.length (ji (i:=i) hn socks)
  rw[List.length_map,List.length_map]at this
  rw[len_same hx,this];exact h.len
 ·rw[fV,ji hn];exact fV.1 h.srt
 ·have hS':atS (S.num:Int) (modS i f socks)=Option.some S:=fi (by rw[fV,ji hn];exact fV.1 h.srt) hS
  rw[qU hn]at hS'
  split at hS'
  ·rename_i e
   rw[q1]at hS'
   simp only[Option.map_some,Option.some.injEq]at hS'
   subst hS'
   obtain⟨a,b,c,d,e1,f1⟩:=h.ok _ q2
   obtain⟨o1,o2,o3,o4,o5⟩:=hok
   exact⟨by rw[hn];exact a,o1,by rw[o2];exact c,by rw[o3];exact d,by rw[o4];exact e1,o5⟩
  ·obtain⟨q,_⟩:=kN hS'
   obtain⟨a,b,c⟩:=h.ok S q
   exact⟨a,by omega,c⟩
theorem p0(p:Pk)(S:Sk):(getS p S).num=S.num∧(getS p S).pol=S.pol∧(getS p S).nm=S.nm∧(getS p S).port=S.port∧(getS p S).life=S.life∧(getS p S).old=S.old∧(getS p S).pks=S.pks∧(getS p S).byt=S.byt:=by
 unfold getS
 split
 ·exact⟨rfl,rfl,rfl,rfl,rfl,rfl,rfl,rfl⟩
 ·split
  ·exact⟨rfl,rfl,rfl,rfl,rfl,rfl,rfl,rfl⟩
  ·split<;>exact⟨rfl,rfl,rfl,rfl,rfl,rfl,rfl,rfl⟩
theorem cutQ_sub{S:Sk}{n:Nat}:∀(q:List Pk) (k:Nat),∃pre,q=pre++(cutQ S n q k).1∧(cutQ S n q k).2=k+pre.length
 | [],k=>⟨[],rfl,rfl⟩
 | p :: r, k => by
   unfold cutQ
   split
   ·exact⟨[],rfl,rfl⟩
   ·obtain⟨pre,h1,h2⟩:=cutQ_sub r (k+1)
    exact⟨p::pre,by rw[List.cons_append,←h1],by rw[h2,List.length_cons];omega⟩
theorem get_count(p:Pk)(S:Sk):(getS p S).dr+(getS p S).q.length=S.dr+S.q.length+1∧∀x∈(getS p S).q,x∈S.q∨x=p:=by
 unfold getS
 split
 ·exact⟨by simp;omega,fun x hx=>.inl hx⟩
 ·split
  ·exact⟨by simp;omega,fun x hx=>by simpa using hx⟩
  ·split
   ·exact⟨by simp;omega,fun x hx=>.inl hx⟩
   ·obtain⟨pre,h1,h2⟩:=cutQ_sub (S:=S) (n:=p.data.length) S.q S.dr
    have hl:=congrArg List.length h1
    rw[List.length_append]at hl
    refine⟨by simp;omega,fun x hx=>?_⟩
    simp only[List.mem_append,List.mem_singleton]at hx
    rcases hx with hx|hx
    ·exact .inl (by rw[h1];exact List.mem_append_right _ hx)
    ·exact .inr hx
end Go.Fx.YtgmeefljgbaanaaFx

