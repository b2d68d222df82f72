/- What the functions that the statement reaches compute: part 4. -/
import Derived.Test.YtbdjfccgkdgbfaaFxW3
namespace Go.Fx.YtbdjfccgkdgbfaaFx
open Go Go.Fx
attribute [local irreducible] aC runI az ar

set_option maxRecDepth 100000
set_option maxHeartbeats 4000000

/-! Rings. -/
def ByC (cs:List AV) (m:Nat):Prop:=∀ j,j < m→∃ z:Int,cs[j]? = some (.lit (.int .u8 z))
structure RgIs (st:St) (r b cap fr:Nat) (l:List UInt8):Prop where
 get:∃ cc,cap≤cc∧st.get r = some [.bs b 1 0 cap cc,.lit (.int .i64 (fr:Nat)),.lit (.int .i64 (l.length:Nat))]
 buf:∃ cs,st.get b = some cs∧cap≤cs.length∧(∀ (j:Nat) (h:j < l.length),cs[(fr + j) % cap]? = some (dx l[j]))∧ByC cs cap
 ne:r≠b
 lt:fr < cap
 le:l.length≤cap
 c0:cap≤4096

theorem RgIs.at {st st':St} {r b cap fr:Nat} {l:List UInt8} (h:RgIs st r b cap fr l) (h1:st'.boxes[r]? = st.boxes[r]?) (h2:st'.boxes[b]? = st.boxes[b]?):RgIs st' r b cap fr l:=by
 obtain ⟨cs,a1,a2,a3⟩:=h.buf
 obtain ⟨cc,g1,g2⟩:=h.get
 exact ⟨⟨cc,g1,(ck h1).trans g2⟩,⟨cs,(ck h2).trans a1,a2,a3⟩,h.ne,h.lt,h.le,h.c0⟩
theorem RgIs.ltr {st:St} {r b cap fr:Nat} {l:List UInt8} (h:RgIs st r b cap fr l):r < st.boxes.length:=by
 obtain ⟨_,_,h⟩:=h.get
 exact bw h
theorem RgIs.ltb {st:St} {r b cap fr:Nat} {l:List UInt8} (h:RgIs st r b cap fr l):b < st.boxes.length:=by
 obtain ⟨cs,a1,_⟩:=h.buf
 exact bw a1

/-- A piece of a buffer. -/
def pcAV (b o n:Nat):AV:=if n = 0 then .sl false 1 [] else .bs b 1 o n n

section
variable {st:St} {r b cap fr:Nat} {l:List UInt8}

theorem eb (h:RgIs st r b cap fr l):aB Go.Proofs.Try.prog n_f58 [.ptr r 0] st (.lit (.bool false)):=by
 obtain ⟨cc,hcc,hg⟩:=h.get
 refine aF hmix k_f58 rfl rfl fun Q hQ=>?_
 unfold aFun c_f58
 simp (config:=KF) (disch:=omega) only [bZ,retI,AI.dst,bt,nC,al,aW,nilX_bs,cH,bp,aY,addA,ae,↓reduceIte,Nat.reduceEqDiff,reduceCtorEq,hg]
 exact hQ _
theorem pF (h:RgIs st r b cap fr l):aB Go.Proofs.Try.prog n_f75 [.ptr r 0] st (.lit (.int .i64 (cap:Nat))):=by
 obtain ⟨cc,hcc,hg⟩:=h.get
 refine aF hmix k_f75 rfl rfl fun Q hQ=>?_
 unfold aFun c_f75
 simp (config:=KF) (disch:=omega) only [bZ,id,↓reduceIte,reduceCtorEq]
 refine ak rfl e_f58 (eb h) rfl ?_
 simp (config:=KF) (disch:=omega) only [bZ,retI,al,lenI,addA,ae,↓reduceIte,Nat.reduceEqDiff,reduceCtorEq,hg]
 exact hQ _
theorem rlen_pure (h:RgIs st r b cap fr l):aB Go.Proofs.Try.prog n_f81 [.ptr r 0] st (.lit (.int .i64 (l.length:Nat))):=by
 obtain ⟨cc,hcc,hg⟩:=h.get
 refine aF hmix k_f81 rfl rfl fun Q hQ=>?_
 unfold aFun c_f81
 simp (config:=KF) (disch:=omega) only [bZ,id,↓reduceIte,reduceCtorEq]
 refine ak rfl e_f58 (eb h) rfl ?_
 simp (config:=KF) (disch:=omega) only [bZ,retI,al,addA,ae,↓reduceIte,Nat.reduceEqDiff,reduceCtorEq,hg]
 exact hQ _
theorem od (h:RgIs st r b cap fr l):aB Go.Proofs.Try.prog n_f74 [.ptr r 0] st (.lit (.int .i64 ((cap - l.length:Nat):Nat))):=by
 have hle:=h.le
 have hc:=h.c0
 refine aF hmix k_f74 rfl rfl fun Q hQ=>?_
 unfold aFun c_f74
 simp (config:=KF) (disch:=omega) only [bZ,id,↓reduceIte,reduceCtorEq]
 refine ak rfl e_f75 (pF h) rfl ?_
 simp (config:=KF) (disch:=omega) only [bZ,id,↓reduceIte,Nat.reduceEqDiff,reduceCtorEq]
 refine ak rfl e_f81 (rlen_pure h) rfl ?_
 simp (config:=KF) (disch:=omega) only [bZ,retI,nK,↓reduceIte,Nat.reduceEqDiff,reduceCtorEq,nS]
 exact hQ _

theorem gU (h:RgIs st r b cap fr l) {o n:Nat} (ho:o≤cap) (hn:n≤cap):aB Go.Proofs.Try.prog n_f83 [.ptr r 0,.lit (.int .i64 (o:Nat)),.lit (.int .i64 (n:Nat))] st
  (.agg [pcAV b ((fr + o) % cap) (min n (cap - (fr + o) % cap)),pcAV b 0 (n - min n (cap - (fr + o) % cap))]):=by
 obtain ⟨cc,hcc,hg⟩:=h.get
 have hlt:=h.lt
 have hc:=h.c0
 obtain ⟨cs,hb,hbl,_⟩:=h.buf
 refine aF hmix k_f83 rfl rfl fun Q hQ=>?_
 unfold aFun c_f83
 generalize ha:(fr + o) % cap = a at hQ
 have hal:a < cap:=by rw [← ha]; exact Nat.mod_lt _ (by omega)
 have e1:((fr + o:Nat):Int) % (cap:Int) = (a:Int):=by rw [← ha]; exact (Int.natCast_emod _ _).symm
 obtain ⟨f,hf⟩:∃ f,min n (cap - a) = f:=⟨_,rfl⟩
 have e2:(if ((cap - a:Nat):Int) < (n:Int) then ((cap - a:Nat):Int) else (n:Int)) = (f:Int):=by split <;> omega
 rw [hf] at hQ
 have hfn:f≤n:=by omega
 have hfc:f≤cap - a:=by omega
 unfold pcAV at hQ
 by_cases h0:f = 0
 ·by_cases h1:n - f = 0
  ·rw [if_pos h0,if_pos h1] at hQ
   have h2:n = 0:=by omega
   subst h0; subst h2
   simp (config:=KF) (disch:=omega) only [bZ,ce,qq,nT,retI,o_bar,o_mn,al,sli3V,barV,ah,sliB,sl3,ixTo,lenI,addA,ae,aV,dW,nK,bA,↓reduceIte,Nat.reduceEqDiff,Nat.reduceAdd,Nat.reduceLeDiff,Int.reduceLE,Int.reduceSub,reduceCtorEq,Nat.sub_zero,n_rem,IntWalk.rem_in,ey,nS,Int.add_zero,if_neg,af,aa,hg,e1,Nat.sub_self]
   exact hQ _
  ·omega
 ·by_cases h1:n - f = 0
  ·rw [if_neg h0,if_pos h1] at hQ
   have h2:n = f:=by omega
   subst h2
   simp (config:=KF) (disch:=omega) only [bZ,ce,qq,nT,retI,o_bar,o_mn,al,sli3V,barV,ah,sliB,sl3,ixTo,lenI,addA,ae,aV,dW,nK,iY,iy,gt,bA,↓reduceIte,Nat.reduceEqDiff,Nat.reduceAdd,Nat.reduceLeDiff,Int.reduceLE,reduceCtorEq,Nat.sub_zero,n_rem,IntWalk.rem_in,ey,nS,if_neg,af,aa,hg,e1,Nat.sub_self,Nat.add_sub_cancel_left]
   exact hQ _
  ·rw [if_neg h0,if_neg h1] at hQ
   have h2:f = cap - a:=by omega
   subst h2
   simp (config:=KF) (disch:=omega) only [bZ,ce,qq,nT,retI,o_bar,o_mn,al,sli3V,barV,ah,sliB,sl3,ixTo,lenI,addA,ae,aV,dW,nK,iY,iy,gt,bA,↓reduceIte,Nat.reduceEqDiff,Nat.reduceAdd,Nat.reduceLeDiff,reduceCtorEq,Nat.sub_zero,n_rem,IntWalk.rem_in,ey,nS,if_pos,if_neg,af,aa,hg,e1,Nat.add_sub_cancel_left]
   exact hQ _

theorem gD (cs vs:List AV) (o i:Nat) (hle:o + vs.length≤cs.length):(a9 cs o vs)[i]? = if o≤i∧i < o + vs.length then vs[i - o]? else cs[i]?:=by
 rw [← List.take_append_drop o cs,gv (by rw [List.length_take]; omega) (by rw [List.length_drop]; omega)]
 by_cases h1:i < o
 ·rw [if_neg (by omega),List.getElem?_append_left (by rw [List.length_take]; omega),List.getElem?_append_left (by rw [List.length_take]; omega)]
 ·rw [List.getElem?_append_right (by rw [List.length_take]; omega),List.length_take,Nat.min_eq_left (by omega)]
  by_cases h2:i < o + vs.length
  ·rw [if_pos ⟨by omega,h2⟩,List.getElem?_append_left (by omega)]
  ·rw [if_neg (fun e=>h2 e.2),List.getElem?_append_right (by omega),List.getElem?_append_right (by rw [List.length_take]; omega),List.length_take,Nat.min_eq_left (by omega),List.getElem?_drop]
   congr 1; omega

theorem ByC.put {cs vs:List AV} {o m:Nat} (h:ByC cs m) (hle:o + vs.length≤cs.length) (hv:∀ (i:Nat) x,vs[i]? = some x→∃ z:Int,x = .lit (.int .u8 z)):ByC (a9 cs o vs) m:=fun j hj=>by
 rw [gD _ _ _ _ hle]
 split
 ·rename_i e
  have hlt:j - o < vs.length:=by omega
  obtain ⟨z,hz⟩:=hv (j - o) _ (List.getElem?_eq_getElem hlt)
  exact ⟨z,by rw [List.getElem?_eq_getElem hlt,hz]⟩
 ·exact h j hj
theorem ByC.bb {cs:List AV} {o m:Nat} {q:List UInt8} (h:ByC cs m) (hle:o + q.length≤cs.length):ByC (a9 cs o (BB q)) m :=
 h.put (by rw [aO]; exact hle) fun i x hx=>by
  have:x ∈ BB q:=List.mem_of_getElem? hx
  simp only [BB,List.mem_map] at this
  obtain ⟨b,_,rfl⟩:=this
  exact ⟨_,rfl⟩
theorem ByC.zero {cs:List AV} {o m n:Nat} (h:ByC cs m) (hle:o + n≤cs.length):ByC (a9 cs o (List.replicate n (.lit (.int .u8 0)))) m :=
 h.put (by rw [List.length_replicate]; exact hle) fun i x hx=>⟨0,List.eq_of_mem_replicate (List.mem_of_getElem? hx)⟩
/-- Cells behind a write at two pieces. -/
theorem rput_cells {cs:List AV} (hl:cap≤cs.length) (hlt:fr < cap) (hb:∀ (j:Nat) (h:j < l.length),cs[(fr + j) % cap]? = some (dx l[j])) {p:List UInt8} (hn:l.length + p.length≤cap) {a f:Nat} (ha:(fr + l.length) % cap = a) (hf:min p.length (cap - a) = f) :
  ∀ (j:Nat) (h:j < (l++p).length),(a9 (a9 cs a (BB (p.take f))) 0 (BB (p.drop f)))[(fr + j) % cap]? = some (dx (l++p)[j]):=by
 intro j h
 have hal:a < cap:=by rw [← ha]; exact Nat.mod_lt _ (by omega)
 have hlen:(l++p).length = l.length + p.length:=List.length_append
 have htl:(BB (p.take f)).length = f:=by rw [aO,List.length_take]; omega
 have hdl:(BB (p.drop f)).length = p.length - f:=by rw [aO,List.length_drop]
 have hm:(fr + j) % cap = if fr + j < cap then fr + j else fr + j - cap:=by
  split
  ·rename_i e; exact Nat.mod_eq_of_lt e
  ·rename_i e
   rw [Nat.mod_eq_sub_mod (by omega),Nat.mod_eq_of_lt (by omega)]
 have hma:a = if fr + l.length < cap then fr + l.length else fr + l.length - cap:=by
  rw [← ha]
  split
  ·rename_i e; exact Nat.mod_eq_of_lt e
  ·rename_i e
   rw [Nat.mod_eq_sub_mod (by omega),Nat.mod_eq_of_lt (by omega)]
 have hBg:∀ (q:List UInt8) (i:Nat),(BB q)[i]? = (q[i]?).map dx:=fun q i=>by simp [BB]
 rw [gD _ _ _ _ (by rw [bC]; omega),gD _ _ _ _ (by omega),htl,hdl]
 by_cases hjl:j < l.length
 ·rw [List.getElem_append_left hjl,← hb j hjl]
  rw [if_neg,if_neg]
  ·rw [hm,hma]; intro e; split at e <;> split at e <;> omega
  ·rw [hm]; intro e; split at e <;> split at hma <;> omega
 ·rw [List.getElem_append_right (by omega)]
  have hjp:j - l.length < p.length:=by omega
  by_cases hjf:j - l.length < f
  ·have e1:(fr + j) % cap = a + (j - l.length):=by rw [hm]; split at hma <;> split <;> omega
   rw [e1,if_neg,if_pos ⟨by omega,by omega⟩,Nat.add_sub_cancel_left,hBg,List.getElem?_take,if_pos hjf,List.getElem?_eq_getElem hjp]
   ·rfl
   ·intro e; split at hma <;> omega
  ·have e1:(fr + j) % cap = j - l.length - f:=by rw [hm]; split at hma <;> split <;> omega
   rw [e1,if_pos ⟨by omega,by omega⟩,Nat.sub_zero,hBg,List.getElem?_drop,show f + (j - l.length - f) = j - l.length by omega,List.getElem?_eq_getElem hjp]
   rfl
end

theorem iL {st:St} {b:Nat} {cs:List AV} (h:st.get b = some cs):st.set b cs = st:=by
 have hb:=iQ h
 have hlt:=bw h
 unfold St.set
 congr 1
 apply List.ext_getElem?
 intro i
 rw [List.getElem?_set]
 split
 ·rename_i e; subst e
  rw [hb]
 ·rfl
theorem qP (n:Nat) (o:Bool) (k:Nat) (es:List AV):cutS n (.sl o k es) = if es.length≤n then .sl o k es else .sl false k (es.take n):=rfl
theorem cutS_bs (n id k off len cap:Nat):cutS n (.bs id k off len cap) = if len≤n then .bs id k off len cap else .bs id k off n cap:=rfl

/-- Bytes as an argument: frozen, or in a buffer. -/
def DV (v:AV) (st:St) (p:List UInt8):Prop:=(v = .lit (.slice none 0 0)∧p = [])∨v = .sl false 1 (BB p)∨∃ bi cap r,v = .bs bi 1 0 p.length cap∧st.get bi = some (BB p++r)∧p.length≤cap∧cap≤(BB p++r).length
section
variable {v:AV} {st st':St} {p:List UInt8}
theorem DV.facts (h:DV v st p):v.dis = v∧v.own1 = v∧v.own2 = v∧v.solid1 = true∧v.noL = true∧v.cells = [v]∧(∀ s,kill s v = v)∧∀ st',lenI .sl st' v = .ok (.lit (.int .i64 (p.length:Nat))):=by
 rcases h with ⟨rfl,rfl⟩ | rfl | ⟨id,cap,r,rfl,_⟩
 ·exact ⟨rfl,rfl,rfl,rfl,rfl,rfl,fun _=>rfl,fun _=>rfl⟩
 ·exact ⟨rfl,rfl,rfl,rfl,rfl,rfl,fun _=>rfl,fun _=>by rw [iE,aO]⟩
 ·exact ⟨rfl,rfl,rfl,rfl,rfl,rfl,fun _=>rfl,fun _=>rfl⟩
theorem DV.at (h:DV v st p) (hb:∀ x ∈ au v,st'.boxes[x]? = st.boxes[x]?):DV v st' p:=by
 rcases h with h | h | ⟨id,cap,r,rfl,hg,h1,h2⟩
 ·exact .inl h
 ·exact .inr (.inl h)
 ·exact .inr (.inr ⟨id,cap,r,rfl,(ck (hb id (by simp [au]))).trans hg,h1,h2⟩)
theorem DV.lt (h:DV v st p):∀ x ∈ au v,x < st.boxes.length:=by
 rcases h with ⟨rfl,_⟩ | rfl | ⟨id,cap,r,rfl,hg,_⟩
 ·simp [au]
 ·simp [au]
 ·intro x hx; simp only [au,List.mem_singleton] at hx; subst hx; exact bw hg
theorem DV.sl (st:St) (p:List UInt8):DV (.sl false 1 (BB p)) st p:=.inr (.inl rfl)
theorem DV.of_mb (h:MB v st (BB p)):DV v st p:=by
 rcases h with ⟨rfl,e⟩ | ⟨id,cap,r,rfl,hg,h1,h2⟩
 ·refine .inl ⟨rfl,?_⟩
  have:=congrArg List.length e
  rw [aO] at this
  exact List.eq_nil_of_length_eq_zero this
 ·rw [aO] at *
  exact .inr (.inr ⟨id,cap,r,rfl,hg,h1,h2⟩)
theorem DV.src (h:DV v st p) {K:List AV→Prop} (hK:K (BB p)):(srcA st 1 v).wp K:=by
 rcases h with ⟨rfl,rfl⟩ | rfl | ⟨id,cap,r,rfl,hg,h1,h2⟩
 ·exact hK
 ·exact hK
 ·show (cA st id 1 0 p.length).wp K
  unfold cA
  rw [hg]
  refine ⟨by simp [aO],?_⟩
  rw [List.drop_zero,kF (by simp [aO]),← aO p,List.take_left]
  exact hK
/-- The bytes from a place on, of which a copy takes some. -/
theorem DV.cut (h:DV v st p) {lo:Nat} (hlo:lo≤p.length):∃ sv,(∀ K:AV→Prop,K sv→(dp v (some (.lit (.int .i64 (lo:Nat)))) (some (.lit (.int .i64 (p.length:Nat)))) 1).wp K) ∧
  ∀ st',(∀ x ∈ au v,st'.boxes[x]? = st.boxes[x]?)→∀ n (K:List AV→Prop),K (BB ((p.drop lo).take n))→(srcA st' 1 (cutS n sv)).wp K:=by
 rcases h with ⟨rfl,rfl⟩ | rfl | ⟨bi,cap,r,rfl,hg,h1,h2⟩
 ·have:lo = 0:=by simpa using hlo
  subst this
  refine ⟨.lit (.slice none 0 0),fun K hK=>(by simp (config:=KF) (disch:=omega) only [bZ,dp,ixTo,Int.reduceLE]; exact hK),fun st' _ n K hK=>?_⟩
  simp only [List.drop_nil,List.take_nil] at hK
  exact hK
 ·refine ⟨.sl false 1 (BB (p.drop lo)),fun K hK=>?_,fun st' _ n K hK=>?_⟩
  ·simp (config:=KF) (disch:=omega) only [bZ,dp,ixTo,↓reduceIte,List.take_length,aO,qm,BB_drop]
   exact hK
  ·rw [qP]
   split
   ·rename_i hc
    rw [aO] at hc
    rw [List.take_of_length_le hc] at hK
    exact hK
   ·rw [qm]
    exact hK
 ·by_cases hc:cap = lo
  ·have hl:lo = p.length:=by omega
   refine ⟨.sl true 1 [],fun K hK=>?_,fun st' _ n K hK=>?_⟩
   ·subst hl
    subst hc
    simp (config:=KF) (disch:=omega) only [bZ,dp,sliB,sl3,ixTo,↓reduceIte]
    exact hK
   ·subst hl
    rw [List.drop_length] at hK
    rw [qP,if_pos (show ([]:List AV).length≤n from Nat.zero_le _)]
    have hK':K []:=by simpa [BB] using hK
    exact hK'
  ·refine ⟨.bs bi 1 lo (p.length - lo) (cap - lo),fun K hK=>?_,fun st' hb n K hK=>?_⟩
   ·simp (config:=KF) (disch:=omega) only [bZ,dp,sliB,sl3,ixTo,↓reduceIte,if_pos,if_neg]
    exact hK
   ·have hg':st'.get bi = some (BB p++r):=(ck (hb bi (by simp [au]))).trans hg
    have key:∀ q,q≤p.length - lo→K (BB ((p.drop lo).take q))→(cA st' bi 1 lo q).wp K:=fun q hq hK=>by
     unfold cA
     rw [hg']
     refine ⟨by simp [aO]; omega,?_⟩
     have e:List.take q (List.drop lo (BB p++r)) = BB ((p.drop lo).take q):=by
      rw [List.drop_append_of_le_length (by rw [aO]; exact hlo),List.take_append_of_le_length (by rw [List.length_drop,aO]; exact hq),BB_drop,qm]
     rw [kF (by simp only [List.length_drop,List.length_append,aO]; omega),e]
     exact hK
    rw [cutS_bs]
    split
    ·rename_i hc
     rw [List.take_of_length_le (by rw [List.length_drop]; exact hc)] at hK
     refine key _ (Nat.le_refl _) ?_
     rw [List.take_of_length_le (by rw [List.length_drop]; exact Nat.le_refl _)]
     exact hK
    ·exact key n (by omega) hK
end

theorem gE (b o n:Nat):(pcAV b o n).dis = pcAV b o n∧(pcAV b o n).own1 = pcAV b o n∧(pcAV b o n).own2 = pcAV b o n∧(pcAV b o n).solid1 = true∧(pcAV b o n).noL = true∧(pcAV b o n).cells = [pcAV b o n]∧(∀ s,kill s (pcAV b o n) = pcAV b o n)∧lenS (pcAV b o n) = n:=by
 unfold pcAV
 split
 ·rename_i h; subst h; exact ⟨rfl,rfl,rfl,rfl,rfl,rfl,fun _=>rfl,rfl⟩
 ·exact ⟨rfl,rfl,rfl,rfl,rfl,rfl,fun _=>rfl,rfl⟩
theorem pc_copy {st:St} {b o n:Nat} {cs:List AV} {q:List UInt8} {C:AV→St→Prop} (hb:st.get b = some cs) (hl:o + n≤cs.length) (hq:q.length≤n) (hC:C (.lit (.int .i64 (q.length:Nat))) (st.set b (a9 cs o (BB q)))):js false 1 (pcAV b o n) C st (BB q):=by
 unfold pcAV
 split
 ·rename_i h
  have h0:q = []:=List.eq_nil_of_length_eq_zero (by omega)
  subst h0
  rw [show a9 cs o (BB []) = cs from af cs o,iL hb] at hC
  exact ⟨rfl,hC⟩
 ·refine ⟨rfl,rfl,by rw [aO]; exact hq,?_⟩
  rw [hb]
  refine ⟨by rw [aO]; omega,?_⟩
  rw [aO,lm]
  exact hC
theorem pc_clear {st:St} {b o n:Nat} {cs:List AV} {C:AV→St→Prop} (hb:st.get b = some cs) (hl:o + n≤cs.length) (hC:C (.tup []) (st.set b (a9 cs o (List.replicate n (.lit (.int .u8 0)))))):clrX false 1 (.lit (.int .u8 0)) (pcAV b o n) C st:=by
 unfold pcAV
 split
 ·rename_i h
  subst h
  rw [show a9 cs o (List.replicate 0 (AV.lit (.int .u8 0))) = cs from af cs o,iL hb] at hC
  exact hC
 ·refine ⟨rfl,rfl,?_⟩
  rw [hb]
  refine ⟨by omega,?_⟩
  have:(List.replicate n (AV.lit (.int .u8 0))).flatMap AV.cells = List.replicate n (.lit (.int .u8 0)):=by
   rw [Lits.cells]
   intro x hx
   exact ⟨_,List.eq_of_mem_replicate hx⟩
  rw [this]
  exact hC

section
variable {st:St} {r b cap fr:Nat} {l:List UInt8}
theorem kM (h:RgIs st r b cap fr l) {v:AV} {p:List UInt8} (hv:DV v st p) (hne:∀ x ∈ au v,x≠b∧x≠r) (hp:p.length≤2000) (hn:l.length + p.length≤cap) :
  am Go.Proofs.Try.prog n_f82 [.ptr r 0,v] st (fun w st'=>w = .tup [.lit (.int .i64 (p.length:Nat)),.lit (.int .i64 0)]∧RgIs st' r b cap fr (l++p)∧Oth st st' [r,b]):=by
 obtain ⟨cc,hcc,hg⟩:=h.get
 have hlt:=h.lt
 have hc:=h.c0
 have hle:=h.le
 obtain ⟨v1,v2,v3,v4,v5,v6,v7,v8⟩:=hv.facts
 obtain ⟨cs,hb,hbl,hcs,hby⟩:=h.buf
 refine ap hmix k_f82 rfl rfl fun Q hQ=>?_
 unfold aFun c_f82
 simp (config:=KF) (disch:=omega) only [bZ,id,↓reduceIte,Nat.reduceEqDiff,reduceCtorEq,v1]
 refine ak rfl e_f58 (eb h) rfl ?_
 simp (config:=KF) (disch:=omega) only [bZ,id,↓reduceIte,Nat.reduceEqDiff,reduceCtorEq,v1,v8]
 refine ak rfl e_f74 (od h) rfl ?_
 simp (config:=KF) (disch:=omega) only [bZ,o_mn,al,addA,ae,dW,id,↓reduceIte,Nat.reduceEqDiff,reduceCtorEq,if_neg,hg]
 obtain ⟨a,ha⟩:∃ a,(fr + l.length) % cap = a:=⟨_,rfl⟩
 obtain ⟨f,hf⟩:∃ f,min p.length (cap - a) = f:=⟨_,rfl⟩
 have hal:a < cap:=by rw [← ha]; exact Nat.mod_lt _ (by omega)
 have hpc:=gU h (o:=l.length) (n:=p.length) hle (by omega)
 rw [ha,hf] at hpc
 have hfp:f≤p.length:=by omega
 have hfc:f≤cap - a:=by omega
 obtain ⟨x1,x2,x3,x4,x5,x6,x7,x8⟩:=gE b a f
 obtain ⟨y1,y2,y3,y4,y5,y6,y7,y8⟩:=gE b 0 (p.length - f)
 refine ak rfl e_f83 hpc rfl ?_
 simp (config:=KF) (disch:=omega) only [bZ,↓reduceIte,Nat.reduceEqDiff,reduceCtorEq]
 rw [f82_23w]
 refine iB 3 ?_
 rw [ca]
 obtain ⟨s0,e0,h0⟩:=hv.cut (lo:=0) (Nat.zero_le _)
 obtain ⟨s1,e1,h1⟩:=hv.cut (lo:=f) hfp
 simp (config:=KF) (disch:=omega) only [bZ,cP,o_sliS,dy,↓reduceIte,Nat.reduceEqDiff,Int.reduceLT,Int.reduceLE,reduceCtorEq,v1,x1]
 refine e0 _ ?_
 simp (config:=KF) (disch:=omega) only [bZ,aW,srcA,↓reduceIte,Nat.reduceEqDiff,reduceCtorEq,x8]
 refine h0 st (fun _ _=>rfl) f _ ?_
 have hq0:((p.drop 0).take f).length = f:=by rw [List.drop_zero,List.length_take]; omega
 refine pc_copy hb (by omega) (by omega) ?_
 rw [hq0,List.drop_zero]
 obtain ⟨c1,hc1⟩:∃ c,c = a9 cs a (BB (p.take f)):=⟨_,rfl⟩
 have hcl1:cap≤c1.length:=by rw [hc1,bC]; exact hbl
 have hltb:=h.ltb
 have hltr:=h.ltr
 have hb1:(st.set b c1).get b = some c1:=aG hltb
 rw [← hc1]
 simp (config:=KF) (disch:=omega) only [bZ,bt,cI,↓reduceIte,Nat.reduceEqDiff,reduceCtorEq,ql,Int.zero_add]
 rw [ca]
 simp (config:=KF) (disch:=omega) only [bZ,cP,o_sliS,dy,↓reduceIte,Nat.reduceEqDiff,Int.reduceLT,Int.reduceLE,reduceCtorEq,v1,y1]
 refine e1 _ ?_
 simp (config:=KF) (disch:=omega) only [bZ,aW,srcA,↓reduceIte,Nat.reduceEqDiff,reduceCtorEq,y8]
 refine h1 _ (fun x hx=>bP (hne x hx).1) (p.length - f) _ ?_
 have hq1:((p.drop f).take (p.length - f)).length = p.length - f:=by rw [List.length_take,List.length_drop]; omega
 have hq2:(p.drop f).take (p.length - f) = p.drop f:=List.take_of_length_le (by rw [List.length_drop]; omega)
 refine pc_copy hb1 (by omega) (by omega) ?_
 rw [hq1,hq2,eV]
 obtain ⟨c2,hc2⟩:∃ c,c = a9 c1 0 (BB (p.drop f)):=⟨_,rfl⟩
 have hcl2:cap≤c2.length:=by rw [hc2,bC]; exact hcl1
 have hrb:r≠b:=h.ne
 have hb2:(st.set b c2).get b = some c2:=aG hltb
 have hg2:(st.set b c2).get r = some [.bs b 1 0 cap cc,.lit (.int .i64 (fr:Nat)),.lit (.int .i64 (l.length:Nat))]:=(cu (Ne.symm hrb)).trans hg
 rw [← hc2]
 simp (config:=KF) (disch:=omega) only [bZ,bt,cI,↓reduceIte,Nat.reduceEqDiff,Int.reduceAdd,reduceCtorEq,ey]
 rw [ca]
 simp (config:=KF) (disch:=omega) only [bZ,retI,gu,al,ah,addA,ae,↓reduceIte,Nat.reduceEqDiff,Nat.reduceAdd,Nat.reduceLeDiff,Int.reduceLT,reduceCtorEq,ey,af,aa,hg2]
 refine hQ _ _ ⟨rfl,?_,?_⟩
 ·have hlt2:r < (st.set b c2).boxes.length:=by rw [du]; exact hltr
  refine ⟨?_,⟨c2,(cu hrb).trans hb2,hcl2,?_,?_⟩,hrb,hlt,by rw [List.length_append]; exact hn,hc⟩
  ·exact ⟨cc,hcc,by rw [aG hlt2,List.length_append]⟩
  ·rw [hc2,hc1]
   exact rput_cells hbl hlt hcs hn ha hf
  ·rw [hc2]
   refine ByC.bb ?_ (by rw [List.length_drop]; omega)
   rw [hc1]
   exact hby.bb (by rw [List.length_take]; omega)
 ·exact (Oth.set st b c2 (by simp)).trans (Oth.set _ r _ (by simp))

/-- The bytes of two pieces. -/
theorem rget_cells {cs:List AV} (hl:cap≤cs.length) (hlt:fr < cap) (hle:l.length≤cap) (hb:∀ (j:Nat) (h:j < l.length),cs[(fr + j) % cap]? = some (dx l[j])) {n f:Nat} (hn:n≤l.length) (hf:min n (cap - fr) = f) :
  (cs.drop fr).take f = BB (l.take f)∧cs.take (n - f) = BB ((l.drop f).take (n - f)):=by
 have hBg:∀ (q:List UInt8) (i:Nat),(BB q)[i]? = (q[i]?).map dx:=fun q i=>by simp [BB]
 have hm:∀ j,j < cap→(fr + j) % cap = if fr + j < cap then fr + j else fr + j - cap:=fun j hj=>by
  split
  ·rename_i e; exact Nat.mod_eq_of_lt e
  ·rename_i e
   rw [Nat.mod_eq_sub_mod (by omega),Nat.mod_eq_of_lt (by omega)]
 constructor
 ·apply List.ext_getElem?
  intro j
  rw [hBg,List.getElem?_take,List.getElem?_take,List.getElem?_drop]
  by_cases hj:j < f
  ·rw [if_pos hj,if_pos hj]
   have:=hb j (by omega)
   rw [hm j (by omega),if_pos (by omega)] at this
   rw [this,List.getElem?_eq_getElem (by omega)]
   rfl
  ·rw [if_neg hj,if_neg hj]; rfl
 ·apply List.ext_getElem?
  intro j
  rw [hBg,List.getElem?_take,List.getElem?_take,List.getElem?_drop]
  by_cases hj:j < n - f
  ·rw [if_pos hj,if_pos hj]
   have:=hb (f + j) (by omega)
   rw [hm (f + j) (by omega),if_neg (by omega)] at this
   rw [show fr + (f + j) - cap = j by omega] at this
   rw [this,List.getElem?_eq_getElem (by omega)]
   rfl
  ·rw [if_neg hj,if_neg hj]; rfl

theorem pc_src {st:St} {b o n:Nat} {cs:List AV} {q:List UInt8} (hb:st.get b = some cs) (hl:o + n≤cs.length) (hq:(cs.drop o).take n = BB q) (hql:q.length = n) {m:Nat} (hm:n≤m) {K:List AV→Prop} (hK:K (BB q)):(srcA st 1 (cutS m (pcAV b o n))).wp K:=by
 unfold pcAV
 split
 ·rename_i h
  have h0:q = []:=List.eq_nil_of_length_eq_zero (by omega)
  subst h0
  rw [qP,if_pos (show ([]:List AV).length≤m from Nat.zero_le _)]
  exact hK
 ·rw [cutS_bs,if_pos hm]
  show (cA st b 1 o n).wp K
  unfold cA
  rw [hb]
  refine ⟨by simp; omega,?_⟩
  rw [kF (by rw [List.length_drop]; omega),hq]
  exact hK

/-- What Peek gives: a new buffer. -/
theorem rpeek_calls (h:RgIs st r b cap fr l) {m:Nat} (hm:m≤2000000) (hl:l≠[]) :
  am Go.Proofs.Try.prog n_f77 [.ptr r 0,.lit (.int .i64 0),.lit (.int .i64 (m:Nat))] st (fun w st'=>w = .tup [.bs st.boxes.length 1 0 (min m l.length) (min m l.length),.lit (.int .i64 0)]∧st' = st.push (.cells (BB (l.take m)))):=by
 obtain ⟨cc,hcc,hg⟩:=h.get
 have hlt:=h.lt
 have hc:=h.c0
 have hle:=h.le
 have hl0:0 < l.length:=List.length_pos_iff.2 hl
 obtain ⟨cs,hb,hbl,hcs,hby⟩:=h.buf
 refine ap hmix k_f77 rfl rfl fun Q hQ=>?_
 unfold aFun c_f77
 simp (config:=KF) (disch:=omega) only [bZ,id,↓reduceIte,Nat.reduceEqDiff,Nat.reduceAdd,reduceCtorEq]
 refine ak rfl e_f58 (eb h) rfl ?_
 simp (config:=KF) (disch:=omega) only [bZ,AI.dst,o_mn,al,aW,addA,ae,dW,nK,dt,↓reduceIte,Nat.reduceEqDiff,Int.reduceLT,reduceCtorEq,Nat.sub_zero,up_subL,hg]
 obtain ⟨n,hn⟩:∃ n,min m l.length = n:=⟨_,rfl⟩
 have e1:(if (l.length:Int) < (m:Int) then (l.length:Int) else (m:Int)) = (n:Int):=by split <;> omega
 have e2:l.take m = l.take n:=by
  rw [← hn]
  by_cases h:m≤l.length
  ·rw [Nat.min_eq_left h]
  ·rw [Nat.min_eq_right (by omega),List.take_length,List.take_of_length_le (by omega)]
 rw [hn,e2] at hQ
 rw [e1]
 have hrep:(List.replicate n (AV.lit (.int .u8 0))).flatMap AV.cells = List.replicate n (.lit (.int .u8 0)):=by
  rw [Lits.cells]
  intro x hx
  exact ⟨_,List.eq_of_mem_replicate hx⟩
 simp (config:=KF) (disch:=omega) only [bZ,bt,lenI,id,↓reduceIte,Nat.reduceEqDiff,reduceCtorEq,nq,hrep]
 obtain ⟨i,hi⟩:∃ i,i = st.boxes.length:=⟨_,rfl⟩
 obtain ⟨s0,hs0⟩:∃ s,s = st.push (.cells (List.replicate n (.lit (.int .u8 0)))):=⟨_,rfl⟩
 have hgi:s0.get i = some (List.replicate n (.lit (.int .u8 0))):=by rw [hs0,hi]; exact bq _ _
 have hseti:∀ c,s0.set i c = st.push (.cells c):=fun c=>by rw [hs0,hi]; exact kG _ _ _
 have hltr:=h.ltr
 have hltb:=h.ltb
 have h0:RgIs s0 r b cap fr l:=h.at (by rw [hs0]; exact bG hltr) (by rw [hs0]; exact bG hltb)
 have hfr:(fr + 0) % cap = fr:=Nat.mod_eq_of_lt hlt
 obtain ⟨f,hf⟩:∃ f,min n (cap - fr) = f:=⟨_,rfl⟩
 have hnl:n≤l.length:=by omega
 have hfn:f≤n:=by omega
 have hpc:=gU h0 (o:=0) (n:=n) (Nat.zero_le _) (by omega)
 rw [hfr,hf] at hpc
 rw [← hi] at hQ ⊢
 rw [← hs0]
 obtain ⟨x1,x2,x3,x4,x5,x6,x7,x8⟩:=gE b fr f
 obtain ⟨y1,y2,y3,y4,y5,y6,y7,y8⟩:=gE b 0 (n - f)
 have hb0:s0.get b = some cs:=by rw [hs0,bU hltb]; exact hb
 obtain ⟨g1,g2⟩:=rget_cells hbl hlt hle hcs hnl hf
 refine ak rfl e_f83 hpc rfl ?_
 simp (config:=KF) (disch:=omega) only [bZ,↓reduceIte,Nat.reduceEqDiff,reduceCtorEq]
 rw [f77_28w]
 refine iB 3 ?_
 rw [ca]
 have hl1:(l.take f).length = f:=by rw [List.length_take]; omega
 have hl2:((l.drop f).take (n - f)).length = n - f:=by rw [List.length_take,List.length_drop]; omega
 have hib:i≠b:=by omega
 by_cases hn0:n = 0
 ·subst hn0
  have hf0:f = 0:=by omega
  subst hf0
  have z1:∀ o,pcAV b o 0 = .sl false 1 []:=fun _=>rfl
  simp (config:=KF) (disch:=omega) only [bZ,bt,cI,cP,fF,dy,dp,fd,aW,js,cutS,lenS,sliB,sl3,ixTo,srcA,↓reduceIte,Nat.reduceEqDiff,Nat.reduceLeDiff,Int.reduceLT,Int.reduceLE,Nat.sub_zero,Int.zero_add,Int.add_zero,z1]
  rw [ca]
  simp (config:=KF) (disch:=omega) only [bZ,bt,cI,cP,fF,dy,dp,fd,aW,js,cutS,lenS,sliB,sl3,ixTo,srcA,↓reduceIte,Nat.reduceEqDiff,Nat.reduceLeDiff,Int.reduceLT,Int.reduceLE,Int.reduceAdd,Int.add_zero]
  rw [ca]
  simp (config:=KF) (disch:=omega) only [bZ,retI,gu,nJ,↓reduceIte,Nat.reduceEqDiff,Int.reduceLT]
  refine hQ _ _ ⟨rfl,?_⟩
  rw [hs0]; rfl
 ·have hf0:0 < f:=by omega
  simp (config:=KF) (disch:=omega) only [bZ,cP,fF,dy,dp,fd,aW,lenS,sliB,sl3,ixTo,↓reduceIte,Nat.reduceEqDiff,Int.reduceLT,Int.reduceLE,Nat.sub_zero,if_pos,if_neg,x1]
  refine pc_src hb0 (by omega) g1 hl1 hfn ?_
  have c1:a9 (List.replicate n (.lit (.int .u8 0))) 0 (BB (l.take f)) = BB (l.take f)++List.replicate (n - f) (.lit (.int .u8 0)):=by
   rw [setAt_zero (by rw [aO,hl1,List.length_replicate]; exact hfn),aO,hl1,List.drop_replicate]
  simp (config:=KF) (disch:=omega) only [bZ,bt,cI,js,↓reduceIte,Nat.reduceEqDiff,aO,lm,ql,Int.zero_add,List.length_replicate,hgi,hl1,c1,hseti]
  have hgi1:(st.push (.cells (BB (l.take f)++List.replicate (n - f) (.lit (.int .u8 0))))).get i = some (BB (l.take f)++List.replicate (n - f) (.lit (.int .u8 0))):=by rw [hi]; exact bq _ _
  have hb1:(st.push (.cells (BB (l.take f)++List.replicate (n - f) (.lit (.int .u8 0))))).get b = some cs:=by rw [bU hltb]; exact hb
  rw [ca]
  by_cases hnf:n = f
  ·subst hnf
   have z1:∀ o,pcAV b o 0 = .sl false 1 []:=fun _=>rfl
   simp (config:=KF) (disch:=omega) only [bZ,bt,cI,cP,fF,dy,dp,fd,aW,List.replicate_zero,js,cutS,lenS,sliB,sl3,ixTo,srcA,↓reduceIte,Nat.reduceEqDiff,Nat.reduceLeDiff,Int.reduceLT,Int.reduceLE,Int.reduceAdd,Int.add_zero,Nat.sub_self,z1]
   rw [ca]
   simp (config:=KF) (disch:=omega) only [bZ,retI,gu,nJ,↓reduceIte,Nat.reduceEqDiff,Int.reduceLT]
   refine hQ _ _ ⟨rfl,?_⟩
   simp
  ·simp (config:=KF) (disch:=omega) only [bZ,cP,fF,dy,dp,fd,aW,lenS,sliB,sl3,ixTo,↓reduceIte,Nat.reduceEqDiff,Int.reduceLT,Int.reduceLE,if_pos,if_neg,y1]
   refine pc_src hb1 (by omega) g2 hl2 (Nat.le_refl _) ?_
   have c2:a9 (BB (l.take f)++List.replicate (n - f) (.lit (.int .u8 0))) f (BB ((l.drop f).take (n - f))) = BB (l.take n):=by
    rw [gv (by rw [aO,hl1]) (by rw [aO,hl2,List.length_replicate]; exact Nat.le_refl _),aO,hl2,List.drop_replicate,Nat.sub_self,List.replicate_zero,List.append_nil,BB_app,← List.take_add,show f + (n - f) = n by omega]
   have hset2:∀ c d,(st.push (.cells d)).set i c = st.push (.cells c):=fun c d=>by rw [hi]; exact kG _ _ _
   simp (config:=KF) (disch:=omega) only [bZ,bt,cI,js,↓reduceIte,Nat.reduceEqDiff,Int.reduceAdd,aO,lm,ey,List.length_append,List.length_replicate,hgi1,hl1,hl2,c2,hset2]
   rw [ca]
   simp (config:=KF) (disch:=omega) only [bZ,retI,gu,nJ,↓reduceIte,Nat.reduceEqDiff,Int.reduceLT]
   exact hQ _ _ ⟨rfl,rfl⟩

theorem rskip_cells {cs:List AV} (hl:cap≤cs.length) (hlt:fr < cap) (hle:l.length≤cap) (hb:∀ (j:Nat) (h:j < l.length),cs[(fr + j) % cap]? = some (dx l[j])) {n f:Nat} (hn:n≤l.length) (hf:min n (cap - fr) = f) :
  ∀ (j:Nat) (h:j < (l.drop n).length),(a9 (a9 cs fr (List.replicate f (.lit (.int .u8 0)))) 0 (List.replicate (n - f) (.lit (.int .u8 0))))[((fr + n) % cap + j) % cap]? = some (dx (l.drop n)[j]):=by
 intro j h
 have hld:(l.drop n).length = l.length - n:=List.length_drop
 have hm:(fr + (n + j)) % cap = if fr + (n + j) < cap then fr + (n + j) else fr + (n + j) - cap:=by
  split
  ·rename_i e; exact Nat.mod_eq_of_lt e
  ·rename_i e
   rw [Nat.mod_eq_sub_mod (by omega),Nat.mod_eq_of_lt (by omega)]
 have e0:((fr + n) % cap + j) % cap = (fr + (n + j)) % cap:=by rw [Nat.mod_add_mod,Nat.add_assoc]
 rw [e0,List.getElem_drop,← hb (n + j) (by omega)]
 rw [gD _ _ _ _ (by rw [bC,List.length_replicate]; omega),gD _ _ _ _ (by rw [List.length_replicate]; omega),List.length_replicate,List.length_replicate]
 rw [if_neg,if_neg]
 ·rw [hm]; intro e; split at e <;> omega
 ·rw [hm]; intro e; split at e <;> omega

theorem me (h:RgIs st r b cap fr l) {n:Nat} (hn:n≤l.length) :
  am Go.Proofs.Try.prog n_f78 [.ptr r 0,.lit (.int .i64 (n:Nat))] st (fun w st'=>w = .tup [.lit (.int .i64 (n:Nat)),.lit (.int .i64 0)]∧RgIs st' r b cap ((fr + n) % cap) (l.drop n)∧Oth st st' [r,b]):=by
 obtain ⟨cc,hcc,hg⟩:=h.get
 have hlt:=h.lt
 have hc:=h.c0
 have hle:=h.le
 have hrb:r≠b:=h.ne
 have hltb:=h.ltb
 have hltr:=h.ltr
 obtain ⟨cs,hb,hbl,hcs,hby⟩:=h.buf
 refine ap hmix k_f78 rfl rfl fun Q hQ=>?_
 unfold aFun c_f78
 simp (config:=KF) (disch:=omega) only [bZ,id,↓reduceIte,Nat.reduceEqDiff,reduceCtorEq]
 refine ak rfl e_f58 (eb h) rfl ?_
 have e1:(if (l.length:Int) < (n:Int) then (l.length:Int) else (n:Int)) = (n:Int):=by split <;> omega
 simp (config:=KF) (disch:=omega) only [bZ,o_mn,al,addA,ae,dW,id,↓reduceIte,Nat.reduceEqDiff,reduceCtorEq,if_neg,hg]
 obtain ⟨f,hf⟩:∃ f,min n (cap - fr) = f:=⟨_,rfl⟩
 have hpc:=gU h (o:=0) (n:=n) (Nat.zero_le _) (by omega)
 rw [show (fr + 0) % cap = fr from Nat.mod_eq_of_lt hlt,hf] at hpc
 obtain ⟨x1,x2,x3,x4,x5,x6,x7,x8⟩:=gE b fr f
 obtain ⟨y1,y2,y3,y4,y5,y6,y7,y8⟩:=gE b 0 (n - f)
 refine ak rfl e_f83 hpc rfl ?_
 simp (config:=KF) (disch:=omega) only [bZ,↓reduceIte,Nat.reduceEqDiff,reduceCtorEq]
 rw [f78_21w]
 refine iB 3 ?_
 rw [ca]
 simp (config:=KF) (disch:=omega) only [bZ,cP,dy,aW,↓reduceIte,Nat.reduceEqDiff,Int.reduceLT,Int.reduceLE,reduceCtorEq,x1]
 refine pc_clear hb (by omega) ?_
 obtain ⟨c1,hc1⟩:∃ c,c = a9 cs fr (List.replicate f (.lit (.int .u8 0))):=⟨_,rfl⟩
 have hcl1:cap≤c1.length:=by rw [hc1,bC]; exact hbl
 have hb1:(st.set b c1).get b = some c1:=aG hltb
 rw [← hc1]
 simp (config:=KF) (disch:=omega) only [bZ,bt,cI,putN,↓reduceIte,Nat.reduceEqDiff,reduceCtorEq,Int.zero_add]
 rw [ca]
 simp (config:=KF) (disch:=omega) only [bZ,cP,dy,aW,↓reduceIte,Nat.reduceEqDiff,Int.reduceLT,Int.reduceLE,reduceCtorEq,y1]
 refine pc_clear hb1 (by omega) ?_
 rw [eV]
 obtain ⟨c2,hc2⟩:∃ c,c = a9 c1 0 (List.replicate (n - f) (.lit (.int .u8 0))):=⟨_,rfl⟩
 have hcl2:cap≤c2.length:=by rw [hc2,bC]; exact hcl1
 have hb2:(st.set b c2).get b = some c2:=aG hltb
 have hg2:(st.set b c2).get r = some [.bs b 1 0 cap cc,.lit (.int .i64 (fr:Nat)),.lit (.int .i64 (l.length:Nat))]:=(cu (Ne.symm hrb)).trans hg
 rw [← hc2]
 simp (config:=KF) (disch:=omega) only [bZ,bt,cI,putN,↓reduceIte,Nat.reduceEqDiff,Int.reduceAdd,reduceCtorEq]
 rw [ca]
 have e2:((fr + n:Nat):Int) % (cap:Int) = (((fr + n) % cap:Nat):Int):=(Int.natCast_emod _ _).symm
 have hlt2:r < (st.set b c2).boxes.length:=by rw [du]; exact hltr
 simp (config:=KF) (disch:=omega) only [bZ,ce,nT,retI,gu,al,ah,lenI,addA,ae,nK,↓reduceIte,Nat.reduceEqDiff,Nat.reduceAdd,Nat.reduceLeDiff,Int.reduceLT,reduceCtorEq,n_rem,IntWalk.rem_in,ey,nS,aG,af,aa,eV,hg2,e2]
 refine hQ _ _ ⟨rfl,?_,?_⟩
 ·refine ⟨?_,⟨c2,(cu hrb).trans hb2,hcl2,?_,?_⟩,hrb,Nat.mod_lt _ (by omega),by rw [List.length_drop]; omega,hc⟩
  ·exact ⟨cc,hcc,by rw [aG hlt2,List.length_drop]⟩
  ·rw [hc2,hc1]
   exact rskip_cells hbl hlt hle hcs hn hf
  ·rw [hc2]
   refine ByC.zero ?_ (by omega)
   rw [hc1]
   exact hby.zero (by omega)
 ·exact (Oth.set st b c2 (by simp)).trans (Oth.set _ r _ (by simp))

theorem mf (h:RgIs st r b cap fr l) {m:Nat} (hm:m≤2000000) :
  am Go.Proofs.Try.prog n_f66 [.ptr r 0,.lit (.int .i64 (m:Nat))] st (fun w st'=>∃ v fr',w = .tup [v,.lit (.int .i64 0)]∧MB v st' (BB (l.take m))∧RgIs st' r b cap fr' (l.drop m)∧Kp st st' [r,b]∧∀ x ∈ au v,st.boxes.length≤x):=by
 have hltr:=h.ltr
 have hltb:=h.ltb
 obtain ⟨cc,hcc,hg⟩:=h.get
 refine ap hmix k_f66 rfl rfl fun Q hQ=>?_
 unfold aFun c_f66
 by_cases hl:l = []
 ·subst hl
  have hpk:aB Go.Proofs.Try.prog n_f77 [.ptr r 0,.lit (.int .i64 0),.lit (.int .i64 (m:Nat))] st (.tup [.lit (.slice none 0 0),.lit (.int .i64 0)]):=by
   refine aF hmix k_f77 rfl rfl fun Q hQ=>?_
   unfold aFun c_f77
   simp (config:=KF) (disch:=omega) only [bZ,id,↓reduceIte,Nat.reduceEqDiff,Nat.reduceAdd,reduceCtorEq]
   refine ak rfl e_f58 (eb h) rfl ?_
   simp (config:=KF) (disch:=omega) only [bZ,retI,AI.dst,al,addA,ae,dt,↓reduceIte,Nat.reduceEqDiff,Int.reduceLT,reduceCtorEq,hg]
   exact hQ _
  simp (config:=KF) (disch:=omega) only [bZ,id,↓reduceIte,Nat.reduceEqDiff,reduceCtorEq]
  refine ak rfl e_f77 hpk rfl ?_
  simp (config:=KF) (disch:=omega) only [bZ,lenI,id,↓reduceIte,Nat.reduceEqDiff,reduceCtorEq,not_true_eq_false]
  refine aq rfl e_f78 (me h (n:=0) (Nat.zero_le _)) rfl fun w st1 hr=>?_
  obtain ⟨rfl,h1,ho⟩:=hr
  simp (config:=KF) (disch:=omega) only [bZ,retI,↓reduceIte,Nat.reduceEqDiff,reduceCtorEq]
  refine hQ _ _ ⟨.lit (.slice none 0 0),_,rfl,.inl ⟨rfl,by simp [BB]⟩,by simpa using h1,ho.kp (fun x hx=>hx),by simp [au]⟩
 ·simp (config:=KF) (disch:=omega) only [bZ,id,↓reduceIte,Nat.reduceEqDiff,reduceCtorEq]
  refine aq rfl e_f77 (rpeek_calls h hm hl) rfl fun w st1 hr=>?_
  obtain ⟨rfl,hs1⟩:=hr
  obtain ⟨n,hn⟩:∃ n,min m l.length = n:=⟨_,rfl⟩
  rw [hn]
  have htk:(l.take m).length = n:=by rw [List.length_take]; exact hn
  have hdr:l.drop m = l.drop n:=by
   by_cases h1:m≤l.length
   ·rw [show n = m by omega]
   ·rw [List.drop_eq_nil_of_le (by omega),List.drop_eq_nil_of_le (by omega)]
  simp (config:=KF) (disch:=omega) only [bZ,lenI,id,own2_bs,↓reduceIte,Nat.reduceEqDiff,reduceCtorEq,not_true_eq_false]
  have h1:RgIs st1 r b cap fr l:=h.at (by rw [hs1]; exact bG hltr) (by rw [hs1]; exact bG hltb)
  refine aq rfl e_f78 (me h1 (n:=n) (by omega)) rfl fun w st2 hr=>?_
  obtain ⟨rfl,h2,ho⟩:=hr
  simp (config:=KF) (disch:=omega) only [bZ,retI,nJ,↓reduceIte,Nat.reduceEqDiff,reduceCtorEq]
  have hgi:st1.get st.boxes.length = some (BB (l.take m)):=by rw [hs1]; exact bq _ _
  have hi2:st2.get st.boxes.length = some (BB (l.take m)):=(ho.get (by simp; omega)).trans hgi
  refine hQ _ _ ⟨_,_,rfl,.inr ⟨st.boxes.length,n,[],by rw [aO,htk],by rw [List.append_nil]; exact hi2,by rw [aO,htk]; exact Nat.le_refl _,by rw [List.append_nil,aO,htk]; exact Nat.le_refl _⟩,by rw [hdr]; exact h2,⟨by rw [ho.1,hs1,aE]; omega,fun i hi hn=>?_⟩,by simp [au]⟩
  rw [ho.2 i hn,hs1]
  exact bG hi
theorem rnew_calls (st:St) {c:Nat} (h1:1≤c) (h2:c≤4096) :
  am Go.Proofs.Try.prog n_f27 [.lit (.int .i64 (c:Nat))] st (fun w st'=>w = .tup [.ptr (st.boxes.length + 1) 0,.lit (.int .i64 0)]∧RgIs st' (st.boxes.length + 1) st.boxes.length c 0 []∧Kp st st' []):=by
 refine ap hmix k_f27 rfl rfl fun Q hQ=>?_
 unfold aFun c_f27
 have hrep:(List.replicate c (AV.lit (.int .u8 0))).flatMap AV.cells = List.replicate c (.lit (.int .u8 0)):=by
  rw [Lits.cells]
  intro x hx
  exact ⟨_,List.eq_of_mem_replicate hx⟩
 simp (config:=KF) (disch:=omega) only [bZ,retI,AI.dst,bt,ei,jM,bstV,aW,aV,iY,iy,gt,bT,↓reduceIte,Nat.reduceEqDiff,Nat.reduceAdd,Nat.reduceLeDiff,reduceCtorEq,cd,aE,af,aa,nq,hrep]
 refine hQ _ _ ⟨rfl,⟨?_,⟨List.replicate c (.lit (.int .u8 0)),?_,by simp,fun j h=>by simp at h,fun j hj=>⟨0,by rw [List.getElem?_replicate,if_pos hj]⟩⟩,by omega,by omega,Nat.zero_le _,h2⟩,⟨by rw [aE,aE]; omega,fun i hi _=>?_⟩⟩
 ·have:=bq (st.push (.cells (List.replicate c (.lit (.int .u8 0))))) [.bs st.boxes.length 1 0 c c,.lit (.int .i64 0),.lit (.int .i64 0)]
  rw [aE] at this
  exact ⟨c,Nat.le_refl _,this⟩
 ·rw [bU (by rw [aE]; omega)]; exact bq _ _
 ·rw [bG (by rw [aE]; omega)]; exact bG hi
/-- A copy of a ring: new boxes only. -/
theorem rcopy_calls (h:RgIs st r b cap fr l):am Go.Proofs.Try.prog n_f40 [.ptr r 0] st (fun v st'=>v = .ptr (st.boxes.length + 1) 0∧RgIs st' (st.boxes.length + 1) st.boxes.length cap fr l∧Kp st st' []∧st'.boxes.length = st.boxes.length + 2):=by
 obtain ⟨cc,hcc,hg⟩:=h.get
 obtain ⟨cs,hb,hbl,hcs,hby⟩:=h.buf
 have hlt:=h.lt
 have hc:=h.c0
 have hle:=h.le
 have htk:∀ (j:Nat),j < cap→∃ z:Int,(cs.take cap)[j]? = some (.lit (.int .u8 z)):=fun j hj=>by
  obtain ⟨z,hz⟩:=hby j hj
  exact ⟨z,by rw [List.getElem?_take,if_pos hj,hz]⟩
 have htl:(cs.take cap).length = cap:=by rw [List.length_take]; omega
 have hlits:Lits (cs.take cap):=fun x hx=>by
  obtain ⟨j,hj⟩:=List.mem_iff_getElem?.1 hx
  have hjl:=(List.getElem?_eq_some_iff.1 hj).1
  obtain ⟨z,hz⟩:=htk j (by omega)
  rw [hz] at hj
  cases hj
  exact ⟨_,rfl⟩
 refine ap hmix k_f40 rfl rfl fun Q hQ=>?_
 unfold aFun c_f40
 simp (config:=KF) (disch:=omega) only [bZ,id,↓reduceIte,reduceCtorEq]
 refine ak rfl e_f58 (eb h) rfl ?_
 simp (config:=KF) (disch:=omega) only [bZ,↓reduceIte,Nat.reduceEqDiff,reduceCtorEq,f40_10e,f40_10h,f40_10p,f40_10l]
 refine draw_a st (St.sub_refl st) ?_
 simp (config:=KF) (disch:=omega) only [bZ,g7,fI,iD,jy,ff,i9,ez,atA_eq,eD,lW,lX,io,al,addA,ae,List.nil_append,List.cons_append,↓reduceIte,Nat.reduceEqDiff,reduceCtorEq,hg]
 refine app_m (fun v s=>∃ c,cap≤c∧v = .bs st.boxes.length 1 0 cap c∧s = st.push (.cells (cs.take cap++List.replicate (c - cap) .any))) rfl rfl ?_ ?_
 ·show (cA st b 1 0 cap).wp _
  unfold cA
  rw [hb]
  refine ⟨by simp; omega,?_⟩
  rw [List.drop_zero,kF (by omega)]
  show appX false 1 1 (.lit (.slice none 0 0)) _ st (cs.take cap)
  refine ⟨rfl,by rw [htl]; exact mq (by omega),?_⟩
  rw [if_neg (by
   intro e
   have:cs.take cap = []:=by simpa using e
   rw [this] at htl; simp at htl; omega)]
  intro c hcw
  rw [htl] at hcw ⊢
  refine ⟨c,hcw,rfl,?_⟩
  rw [hlits.cellsD,List.nil_append,Nat.mul_one]
 simp (config:=KF) (disch:=omega) only [bZ,ksB,aJ,bg,bD,aK,nstB,bE,jy,ff,i9,ez,ln,mw,hm_val,gz,al,addA,ae,List.nil_append,List.cons_append,↓reduceIte,Nat.reduceEqDiff,reduceCtorEq,hg]
 rintro v s1 ⟨c,hcw,rfl,rfl⟩
 refine ⟨St.sub_push _ _,?_⟩
 simp (config:=KF) (disch:=omega) only [bZ,ksB,aJ,bg,bD,aK,cB,bS,nstB,bE,g7,fI,iD,jy,ff,i9,ez,gy,fq,my,gA,ja,retI,ei,jM,al,bstV,addA,ae,aV,iY,iy,gt,bT,List.nil_append,List.cons_append,↓reduceIte,Nat.reduceEqDiff,Nat.reduceAdd,Nat.reduceLeDiff,reduceCtorEq,aE,af,aa,hg]
 refine hQ _ _ ⟨by simp [aE],⟨⟨c,hcw,?_⟩,⟨cs.take cap++List.replicate (c - cap) .any,?_,by rw [List.length_append,htl]; omega,fun j hj=>?_,fun j hj=>?_⟩,by omega,hlt,hle,hc⟩,⟨by simp only [aE]; omega,fun i hi _=>?_⟩,by simp [aE]⟩
 ·have:=bq (st.push (.cells (cs.take cap++List.replicate (c - cap) .any))) [.bs st.boxes.length 1 0 cap c,.lit (.int .i64 (fr:Nat)),.lit (.int .i64 (l.length:Nat))]
  rw [aE] at this
  exact this
 ·rw [bU (by rw [aE]; omega)]; exact bq _ _
 ·have hm:=Nat.mod_lt (fr + j) (show 0 < cap by omega)
  rw [List.getElem?_append_left (by omega),List.getElem?_take,if_pos hm]
  exact hcs j hj
 ·rw [List.getElem?_append_left (by omega)]
  exact htk j hj
 ·rw [bG (by rw [aE]; omega)]; exact bG hi
end
end Go.Fx.YtbdjfccgkdgbfaaFx

