/- What the functions that the statement reaches compute: part 4. -/
import Derived.Test.YtbdjfccgkdgbfaaFxW3
namespace Go.Fx.YtbdjfccgkdgbfaaFx
open Go Go.Fx
attribute [local irreducible] aC runI au aH

set_option maxRecDepth 100000
set_option maxHeartbeats 4000000

/-! Rings. -/
structure RgIs (st:St) (r b cap fr:Nat) (l:List UInt8):Prop where
  get:st.get r = some [.bs b 1 0 cap cap,.lit (.int .i64 (fr:Nat)),.lit (.int .i64 (l.length:Nat))]
  buf:∃ cs,st.get b = some cs∧cs.length = cap∧∀ (j:Nat) (h:j < l.length),cs[(fr + j) % cap]? = some (bV l[j])
  ne:r≠b
  lt:fr < cap
  le:l.length≤cap
  c0:cap≤4096

theorem RgIs.at {st st':St} {r b cap fr:Nat} {l:List UInt8} (h:RgIs st r b cap fr l) (h1:st'.boxes[r]? = st.boxes[r]?) (h2:st'.boxes[b]? = st.boxes[b]?):RgIs st' r b cap fr l:=by
  obtain ⟨cs,a1,a2,a3⟩:=h.buf
  exact ⟨(bY h1).trans h.get,⟨cs,(bY h2).trans a1,a2,a3⟩,h.ne,h.lt,h.le,h.c0⟩
theorem RgIs.ltr {st:St} {r b cap fr:Nat} {l:List UInt8} (h:RgIs st r b cap fr l):r < st.boxes.length:=aS h.get
theorem RgIs.ltb {st:St} {r b cap fr:Nat} {l:List UInt8} (h:RgIs st r b cap fr l):b < st.boxes.length:=by
  obtain ⟨cs,a1,_⟩:=h.buf
  exact aS a1

/-- A piece of a buffer. -/
def pcAV (b o n:Nat):AV:=if n = 0 then .sl false 1 [] else .bs b 1 o n n

section
variable {st:St} {r b cap fr:Nat} {l:List UInt8}

theorem en (h:RgIs st r b cap fr l):aG Go.Proofs.Try.prog n_f58 [.ptr r 0] st (.lit (.bool false)):=by
  have hg:=h.get
  refine aV hmix k_f58 rfl rfl fun Q hQ=>?_
  unfold aFun c_f58
  simp (config:=KF) (disch:=omega) only [bZ,retI,AI.dst,bu,mM,o_x,aj,aD,nilX_bs,cA,bq,aY,addA,aa,↓reduceIte,Nat.reduceEqDiff,reduceCtorEq,hg]
  exact hQ _
theorem oQ (h:RgIs st r b cap fr l):aG Go.Proofs.Try.prog n_f75 [.ptr r 0] st (.lit (.int .i64 (cap:Nat))):=by
  have hg:=h.get
  refine aV hmix k_f75 rfl rfl fun Q hQ=>?_
  unfold aFun c_f75
  simp (config:=KF) (disch:=omega) only [bZ,id,↓reduceIte,reduceCtorEq]
  refine am rfl e_f58 (en h) rfl ?_
  simp (config:=KF) (disch:=omega) only [bZ,retI,aj,lenI,addA,aa,↓reduceIte,Nat.reduceEqDiff,reduceCtorEq,hg]
  exact hQ _
theorem rlen_pure (h:RgIs st r b cap fr l):aG Go.Proofs.Try.prog n_f81 [.ptr r 0] st (.lit (.int .i64 (l.length:Nat))):=by
  have hg:=h.get
  refine aV hmix k_f81 rfl rfl fun Q hQ=>?_
  unfold aFun c_f81
  simp (config:=KF) (disch:=omega) only [bZ,id,↓reduceIte,reduceCtorEq]
  refine am rfl e_f58 (en h) rfl ?_
  simp (config:=KF) (disch:=omega) only [bZ,retI,aj,addA,aa,↓reduceIte,Nat.reduceEqDiff,reduceCtorEq,hg]
  exact hQ _
theorem nz (h:RgIs st r b cap fr l):aG Go.Proofs.Try.prog n_f74 [.ptr r 0] st (.lit (.int .i64 ((cap - l.length:Nat):Nat))):=by
  have hle:=h.le
  have hc:=h.c0
  refine aV hmix k_f74 rfl rfl fun Q hQ=>?_
  unfold aFun c_f74
  simp (config:=KF) (disch:=omega) only [bZ,id,↓reduceIte,reduceCtorEq]
  refine am rfl e_f75 (oQ h) rfl ?_
  simp (config:=KF) (disch:=omega) only [bZ,id,↓reduceIte,Nat.reduceEqDiff,reduceCtorEq]
  refine am rfl e_f81 (rlen_pure h) rfl ?_
  simp (config:=KF) (disch:=omega) only [bZ,retI,mZ,↓reduceIte,Nat.reduceEqDiff,reduceCtorEq,nc]
  exact hQ _

theorem gn (h:RgIs st r b cap fr l) {o n:Nat} (ho:o≤cap) (hn:n≤cap):aG Go.Proofs.Try.prog n_f83 [.ptr r 0,.lit (.int .i64 (o:Nat)),.lit (.int .i64 (n:Nat))] st
    (.agg [pcAV b ((fr + o) % cap) (min n (cap - (fr + o) % cap)),pcAV b 0 (n - min n (cap - (fr + o) % cap))]):=by
  have hg:=h.get
  have hlt:=h.lt
  have hc:=h.c0
  obtain ⟨cs,hb,hbl,_⟩:=h.buf
  refine aV hmix k_f83 rfl rfl fun Q hQ=>?_
  unfold aFun c_f83
  generalize ha:(fr + o) % cap = a at hQ
  have hal:a < cap:=by rw [← ha]; exact Nat.mod_lt _ (by omega)
  have e1:((fr + o:Nat):Int) % (cap:Int) = (a:Int):=by rw [← ha]; exact (Int.natCast_emod _ _).symm
  obtain ⟨f,hf⟩:∃ f,min n (cap - a) = f:=⟨_,rfl⟩
  have e2:(if ((cap - a:Nat):Int) < (n:Int) then ((cap - a:Nat):Int) else (n:Int)) = (f:Int):=by split <;> omega
  rw [hf] at hQ
  have hfn:f≤n:=by omega
  have hfc:f≤cap - a:=by omega
  unfold pcAV at hQ
  by_cases h0:f = 0
  · by_cases h1:n - f = 0
    · rw [if_pos h0,if_pos h1] at hQ
      have h2:n = 0:=by omega
      subst h0; subst h2
      simp (config:=KF) (disch:=omega) only [bZ,d7,bQ,dc,fD,cC,bL,bX,pD,gZ,aQ,bt,retI,o_bar,o_mn,eh,aj,sli3V,barV,az,sliB,sl3,ixTo,lenI,addA,aa,aJ,bj,du,mZ,da,bd,jN,bN,eH,bO,bJ,Option.map_some,Option.map_none,↓reduceIte,Nat.reduceEqDiff,Nat.reduceAdd,Nat.reduceLeDiff,Int.reduceLE,Int.reduceSub,reduceCtorEq,Nat.sub_zero,n_rem,IntWalk.rem_in,gj,nc,Int.add_zero,if_neg,hg,e1,Nat.sub_self]
      exact hQ _
    · omega
  · by_cases h1:n - f = 0
    · rw [if_neg h0,if_pos h1] at hQ
      have h2:n = f:=by omega
      subst h2
      simp (config:=KF) (disch:=omega) only [bZ,d7,bQ,dc,fD,cC,bL,bX,pD,gZ,aQ,bt,retI,o_bar,o_mn,eh,aj,sli3V,barV,az,sliB,sl3,ixTo,lenI,addA,aa,aJ,bj,du,mZ,da,bd,jN,pr,bN,mU,kF,eH,bO,bJ,Option.map_some,Option.map_none,↓reduceIte,Nat.reduceEqDiff,Nat.reduceAdd,Nat.reduceLeDiff,Int.reduceLE,reduceCtorEq,Nat.sub_zero,n_rem,IntWalk.rem_in,gj,nc,if_neg,hg,e1,Nat.sub_self,Nat.add_sub_cancel_left]
      exact hQ _
    · rw [if_neg h0,if_neg h1] at hQ
      have h2:f = cap - a:=by omega
      subst h2
      simp (config:=KF) (disch:=omega) only [bZ,d7,bQ,dc,fD,cC,bL,bX,pD,gZ,aQ,bt,retI,o_bar,o_mn,eh,aj,sli3V,barV,az,sliB,sl3,ixTo,lenI,addA,aa,aJ,bj,du,mZ,da,bd,pr,mU,kF,eH,bO,bJ,Option.map_some,Option.map_none,↓reduceIte,Nat.reduceEqDiff,Nat.reduceAdd,Nat.reduceLeDiff,reduceCtorEq,Nat.sub_zero,n_rem,IntWalk.rem_in,gj,nc,if_pos,if_neg,hg,e1,Nat.add_sub_cancel_left]
      exact hQ _

theorem iG (cs vs:List AV) (o i:Nat) (hle:o + vs.length≤cs.length):(aL cs o vs)[i]? = if o≤i∧i < o + vs.length then vs[i - o]? else cs[i]?:=by
  rw [← List.take_append_drop o cs,gY (by rw [List.length_take]; omega) (by rw [List.length_drop]; omega)]
  by_cases h1:i < o
  · rw [if_neg (by omega),List.getElem?_append_left (by rw [List.length_take]; omega),List.getElem?_append_left (by rw [List.length_take]; omega)]
  · rw [List.getElem?_append_right (by rw [List.length_take]; omega),List.length_take,Nat.min_eq_left (by omega)]
    by_cases h2:i < o + vs.length
    · rw [if_pos ⟨by omega,h2⟩,List.getElem?_append_left (by omega)]
    · rw [if_neg (fun e=>h2 e.2),List.getElem?_append_right (by omega),List.getElem?_append_right (by rw [List.length_take]; omega),List.length_take,Nat.min_eq_left (by omega),List.getElem?_drop]
      congr 1; omega

/-- Cells behind a write at two pieces. -/
theorem rput_cells {cs:List AV} (hl:cs.length = cap) (hlt:fr < cap) (hb:∀ (j:Nat) (h:j < l.length),cs[(fr + j) % cap]? = some (bV l[j])) {p:List UInt8} (hn:l.length + p.length≤cap) {a f:Nat} (ha:(fr + l.length) % cap = a) (hf:min p.length (cap - a) = f) :
    ∀ (j:Nat) (h:j < (l++p).length),(aL (aL cs a (BB (p.take f))) 0 (BB (p.drop f)))[(fr + j) % cap]? = some (bV (l++p)[j]):=by
  intro j h
  have hal:a < cap:=by rw [← ha]; exact Nat.mod_lt _ (by omega)
  have hlen:(l++p).length = l.length + p.length:=List.length_append
  have htl:(BB (p.take f)).length = f:=by rw [aK,List.length_take]; omega
  have hdl:(BB (p.drop f)).length = p.length - f:=by rw [aK,List.length_drop]
  have hm:(fr + j) % cap = if fr + j < cap then fr + j else fr + j - cap:=by
    split
    · rename_i e; exact Nat.mod_eq_of_lt e
    · rename_i e
      rw [Nat.mod_eq_sub_mod (by omega),Nat.mod_eq_of_lt (by omega)]
  have hma:a = if fr + l.length < cap then fr + l.length else fr + l.length - cap:=by
    rw [← ha]
    split
    · rename_i e; exact Nat.mod_eq_of_lt e
    · rename_i e
      rw [Nat.mod_eq_sub_mod (by omega),Nat.mod_eq_of_lt (by omega)]
  have hBg:∀ (q:List UInt8) (i:Nat),(BB q)[i]? = (q[i]?).map bV:=fun q i=>by simp [BB]
  rw [iG _ _ _ _ (by rw [em]; omega),iG _ _ _ _ (by omega),htl,hdl]
  by_cases hjl:j < l.length
  · rw [List.getElem_append_left hjl,← hb j hjl]
    rw [if_neg,if_neg]
    · rw [hm,hma]; intro e; split at e <;> split at e <;> omega
    · rw [hm]; intro e; split at e <;> split at hma <;> omega
  · rw [List.getElem_append_right (by omega)]
    have hjp:j - l.length < p.length:=by omega
    by_cases hjf:j - l.length < f
    · have e1:(fr + j) % cap = a + (j - l.length):=by rw [hm]; split at hma <;> split <;> omega
      rw [e1,if_neg,if_pos ⟨by omega,by omega⟩,Nat.add_sub_cancel_left,hBg,List.getElem?_take,if_pos hjf,List.getElem?_eq_getElem hjp]
      · rfl
      · intro e; split at hma <;> omega
    · have e1:(fr + j) % cap = j - l.length - f:=by rw [hm]; split at hma <;> split <;> omega
      rw [e1,if_pos ⟨by omega,by omega⟩,Nat.sub_zero,hBg,List.getElem?_drop,show f + (j - l.length - f) = j - l.length by omega,List.getElem?_eq_getElem hjp]
      rfl
end

theorem ic {st:St} {b:Nat} {cs:List AV} (h:st.get b = some cs):st.set b cs = st:=by
  have hb:=il h
  have hlt:=aS h
  unfold St.set
  congr 1
  apply List.ext_getElem?
  intro i
  rw [List.getElem?_set]
  split
  · rename_i e; subst e
    rw [hb]
  · rfl
theorem pO (n:Nat) (o:Bool) (k:Nat) (es:List AV):cutS n (.sl o k es) = if es.length≤n then .sl o k es else .sl false k (es.take n):=rfl
theorem cutS_bs (n id k off len cap:Nat):cutS n (.bs id k off len cap) = if len≤n then .bs id k off len cap else .bs id k off n cap:=rfl

/-- Bytes as an argument: frozen, or in a buffer. -/
def DV (v:AV) (st:St) (p:List UInt8):Prop:=(v = .lit (.slice none 0 0)∧p = [])∨v = .sl false 1 (BB p)∨∃ bi cap r,v = .bs bi 1 0 p.length cap∧st.get bi = some (BB p++r)∧p.length≤cap∧cap≤(BB p++r).length
section
variable {v:AV} {st st':St} {p:List UInt8}
theorem DV.facts (h:DV v st p):v.dis = v∧v.own1 = v∧v.own2 = v∧v.solid1 = true∧v.noL = true∧v.cells = [v]∧(∀ s,kill s v = v)∧∀ st',lenI .sl st' v = .ok (.lit (.int .i64 (p.length:Nat))):=by
  rcases h with ⟨rfl,rfl⟩ | rfl | ⟨id,cap,r,rfl,_⟩
  · exact ⟨rfl,rfl,rfl,rfl,rfl,rfl,fun _=>rfl,fun _=>rfl⟩
  · exact ⟨rfl,rfl,rfl,rfl,rfl,rfl,fun _=>rfl,fun _=>by rw [len_sl,aK]⟩
  · exact ⟨rfl,rfl,rfl,rfl,rfl,rfl,fun _=>rfl,fun _=>rfl⟩
theorem DV.at (h:DV v st p) (hb:∀ x ∈ ah v,st'.boxes[x]? = st.boxes[x]?):DV v st' p:=by
  rcases h with h | h | ⟨id,cap,r,rfl,hg,h1,h2⟩
  · exact .inl h
  · exact .inr (.inl h)
  · exact .inr (.inr ⟨id,cap,r,rfl,(bY (hb id (by simp [ah]))).trans hg,h1,h2⟩)
theorem DV.lt (h:DV v st p):∀ x ∈ ah v,x < st.boxes.length:=by
  rcases h with ⟨rfl,_⟩ | rfl | ⟨id,cap,r,rfl,hg,_⟩
  · simp [ah]
  · simp [ah]
  · intro x hx; simp only [ah,List.mem_singleton] at hx; subst hx; exact aS hg
theorem DV.sl (st:St) (p:List UInt8):DV (.sl false 1 (BB p)) st p:=.inr (.inl rfl)
theorem DV.of_mb (h:MB v st (BB p)):DV v st p:=by
  rcases h with ⟨rfl,e⟩ | ⟨id,cap,r,rfl,hg,h1,h2⟩
  · refine .inl ⟨rfl,?_⟩
    have:=congrArg List.length e
    rw [aK] at this
    exact List.eq_nil_of_length_eq_zero this
  · rw [aK] at *
    exact .inr (.inr ⟨id,cap,r,rfl,hg,h1,h2⟩)
theorem DV.src (h:DV v st p) {K:List AV→Prop} (hK:K (BB p)):(srcA st 1 v).wp K:=by
  rcases h with ⟨rfl,rfl⟩ | rfl | ⟨id,cap,r,rfl,hg,h1,h2⟩
  · exact hK
  · exact hK
  · show (cT st id 1 0 p.length).wp K
    unfold cT
    rw [hg]
    refine ⟨by simp [aK],?_⟩
    rw [List.drop_zero,lJ (by simp [aK]),← aK p,List.take_left]
    exact hK
/-- The bytes from a place on, of which a copy takes some. -/
theorem DV.cut (h:DV v st p) {lo:Nat} (hlo:lo≤p.length):∃ sv,(∀ K:AV→Prop,K sv→(fQ v (some (.lit (.int .i64 (lo:Nat)))) (some (.lit (.int .i64 (p.length:Nat)))) 1).wp K) ∧
    ∀ st',(∀ x ∈ ah v,st'.boxes[x]? = st.boxes[x]?)→∀ n (K:List AV→Prop),K (BB ((p.drop lo).take n))→(srcA st' 1 (cutS n sv)).wp K:=by
  rcases h with ⟨rfl,rfl⟩ | rfl | ⟨bi,cap,r,rfl,hg,h1,h2⟩
  · have:lo = 0:=by simpa using hlo
    subst this
    refine ⟨.lit (.slice none 0 0),fun K hK=>(by simp (config:=KF) (disch:=omega) only [bZ,fQ,ixTo,Int.reduceLE]; exact hK),fun st' _ n K hK=>?_⟩
    simp only [List.drop_nil,List.take_nil] at hK
    exact hK
  · refine ⟨.sl false 1 (BB (p.drop lo)),fun K hK=>?_,fun st' _ n K hK=>?_⟩
    · simp (config:=KF) (disch:=omega) only [bZ,fQ,ixTo,↓reduceIte,List.take_length,aK,py,BB_drop]
      exact hK
    · rw [pO]
      split
      · rename_i hc
        rw [aK] at hc
        rw [List.take_of_length_le hc] at hK
        exact hK
      · rw [py]
        exact hK
  · by_cases hc:cap = lo
    · have hl:lo = p.length:=by omega
      refine ⟨.sl true 1 [],fun K hK=>?_,fun st' _ n K hK=>?_⟩
      · subst hl
        subst hc
        simp (config:=KF) (disch:=omega) only [bZ,fQ,sliB,sl3,ixTo,↓reduceIte]
        exact hK
      · subst hl
        rw [List.drop_length] at hK
        rw [pO,if_pos (show ([]:List AV).length≤n from Nat.zero_le _)]
        have hK':K []:=by simpa [BB] using hK
        exact hK'
    · refine ⟨.bs bi 1 lo (p.length - lo) (cap - lo),fun K hK=>?_,fun st' hb n K hK=>?_⟩
      · simp (config:=KF) (disch:=omega) only [bZ,fQ,sliB,sl3,ixTo,↓reduceIte,if_pos,if_neg]
        exact hK
      · have hg':st'.get bi = some (BB p++r):=(bY (hb bi (by simp [ah]))).trans hg
        have key:∀ q,q≤p.length - lo→K (BB ((p.drop lo).take q))→(cT st' bi 1 lo q).wp K:=fun q hq hK=>by
          unfold cT
          rw [hg']
          refine ⟨by simp [aK]; omega,?_⟩
          have e:List.take q (List.drop lo (BB p++r)) = BB ((p.drop lo).take q):=by
            rw [List.drop_append_of_le_length (by rw [aK]; exact hlo),List.take_append_of_le_length (by rw [List.length_drop,aK]; exact hq),BB_drop,py]
          rw [lJ (by simp only [List.length_drop,List.length_append,aK]; omega),e]
          exact hK
        rw [cutS_bs]
        split
        · rename_i hc
          rw [List.take_of_length_le (by rw [List.length_drop]; exact hc)] at hK
          refine key _ (Nat.le_refl _) ?_
          rw [List.take_of_length_le (by rw [List.length_drop]; exact Nat.le_refl _)]
          exact hK
        · exact key n (by omega) hK
end

theorem fZ (b o n:Nat):(pcAV b o n).dis = pcAV b o n∧(pcAV b o n).own1 = pcAV b o n∧(pcAV b o n).own2 = pcAV b o n∧(pcAV b o n).solid1 = true∧(pcAV b o n).noL = true∧(pcAV b o n).cells = [pcAV b o n]∧(∀ s,kill s (pcAV b o n) = pcAV b o n)∧lenS (pcAV b o n) = n:=by
  unfold pcAV
  split
  · rename_i h; subst h; exact ⟨rfl,rfl,rfl,rfl,rfl,rfl,fun _=>rfl,rfl⟩
  · exact ⟨rfl,rfl,rfl,rfl,rfl,rfl,fun _=>rfl,rfl⟩
theorem pc_copy {st:St} {b o n:Nat} {cs:List AV} {q:List UInt8} {C:AV→St→Prop} (hb:st.get b = some cs) (hl:o + n≤cs.length) (hq:q.length≤n) (hC:C (.lit (.int .i64 (q.length:Nat))) (st.set b (aL cs o (BB q)))):iQ false 1 (pcAV b o n) C st (BB q):=by
  unfold pcAV
  split
  · rename_i h
    have h0:q = []:=List.eq_nil_of_length_eq_zero (by omega)
    subst h0
    rw [show aL cs o (BB []) = cs from iz cs o,ic hb] at hC
    exact ⟨rfl,hC⟩
  · refine ⟨rfl,rfl,by rw [aK]; exact hq,?_⟩
    rw [hb]
    refine ⟨by rw [aK]; omega,?_⟩
    rw [aK,kI]
    exact hC
theorem pc_clear {st:St} {b o n:Nat} {cs:List AV} {C:AV→St→Prop} (hb:st.get b = some cs) (hl:o + n≤cs.length) (hC:C (.tup []) (st.set b (aL cs o (List.replicate n (.lit (.int .u8 0)))))):clrX false 1 (.lit (.int .u8 0)) (pcAV b o n) C st:=by
  unfold pcAV
  split
  · rename_i h
    subst h
    rw [show aL cs o (List.replicate 0 (AV.lit (.int .u8 0))) = cs from iz cs o,ic hb] at hC
    exact hC
  · refine ⟨rfl,rfl,?_⟩
    rw [hb]
    refine ⟨by omega,?_⟩
    have:(List.replicate n (AV.lit (.int .u8 0))).flatMap AV.cells = List.replicate n (.lit (.int .u8 0)):=by
      rw [Lits.cells]
      intro x hx
      exact ⟨_,List.eq_of_mem_replicate hx⟩
    rw [this]
    exact hC

section
variable {st:St} {r b cap fr:Nat} {l:List UInt8}
theorem j8 (h:RgIs st r b cap fr l) {v:AV} {p:List UInt8} (hv:DV v st p) (hne:∀ x ∈ ah v,x≠b∧x≠r) (hp:p.length≤2000) (hn:l.length + p.length≤cap) :
    al Go.Proofs.Try.prog n_f82 [.ptr r 0,v] st (fun w st'=>w = .tup [.lit (.int .i64 (p.length:Nat)),.lit (.int .i64 0)]∧RgIs st' r b cap fr (l++p)∧Oth st st' [r,b]):=by
  have hg:=h.get
  have hlt:=h.lt
  have hc:=h.c0
  have hle:=h.le
  obtain ⟨v1,v2,v3,v4,v5,v6,v7,v8⟩:=hv.facts
  obtain ⟨cs,hb,hbl,hcs⟩:=h.buf
  refine ao hmix k_f82 rfl rfl fun Q hQ=>?_
  unfold aFun c_f82
  simp (config:=KF) (disch:=omega) only [bZ,id,↓reduceIte,Nat.reduceEqDiff,reduceCtorEq,v1]
  refine am rfl e_f58 (en h) rfl ?_
  simp (config:=KF) (disch:=omega) only [bZ,dk,id,↓reduceIte,Nat.reduceEqDiff,reduceCtorEq,v1,v8]
  refine am rfl e_f74 (nz h) rfl ?_
  simp (config:=KF) (disch:=omega) only [bZ,o_mn,aj,addA,aa,du,id,↓reduceIte,Nat.reduceEqDiff,reduceCtorEq,if_neg,hg]
  obtain ⟨a,ha⟩:∃ a,(fr + l.length) % cap = a:=⟨_,rfl⟩
  obtain ⟨f,hf⟩:∃ f,min p.length (cap - a) = f:=⟨_,rfl⟩
  have hal:a < cap:=by rw [← ha]; exact Nat.mod_lt _ (by omega)
  have hpc:=gn h (o:=l.length) (n:=p.length) hle (by omega)
  rw [ha,hf] at hpc
  have hfp:f≤p.length:=by omega
  have hfc:f≤cap - a:=by omega
  obtain ⟨x1,x2,x3,x4,x5,x6,x7,x8⟩:=fZ b a f
  obtain ⟨y1,y2,y3,y4,y5,y6,y7,y8⟩:=fZ b 0 (p.length - f)
  refine am rfl e_f83 hpc rfl ?_
  simp (config:=KF) (disch:=omega) only [bZ,↓reduceIte,Nat.reduceEqDiff,reduceCtorEq]
  rw [f82_23w]
  refine gX 3 ?_
  rw [bM]
  obtain ⟨s0,e0,h0⟩:=hv.cut (lo:=0) (Nat.zero_le _)
  obtain ⟨s1,e1,h1⟩:=hv.cut (lo:=f) hfp
  simp (config:=KF) (disch:=omega) only [bZ,dZ,o_sliS,eA,Option.map_some,↓reduceIte,Nat.reduceEqDiff,Int.reduceLT,Int.reduceLE,reduceCtorEq,v1,x1]
  refine e0 _ ?_
  simp (config:=KF) (disch:=omega) only [bZ,o_x,aD,srcA,↓reduceIte,Nat.reduceEqDiff,reduceCtorEq,x8]
  refine h0 st (fun _ _=>rfl) f _ ?_
  have hq0:((p.drop 0).take f).length = f:=by rw [List.drop_zero,List.length_take]; omega
  refine pc_copy hb (by omega) (by omega) ?_
  rw [hq0,List.drop_zero]
  obtain ⟨c1,hc1⟩:∃ c,c = aL cs a (BB (p.take f)):=⟨_,rfl⟩
  have hcl1:c1.length = cap:=by rw [hc1,em,hbl]
  have hltb:=h.ltb
  have hltr:=h.ltr
  have hb1:(st.set b c1).get b = some c1:=aw hltb
  rw [← hc1]
  simp (config:=KF) (disch:=omega) only [bZ,bu,cm,↓reduceIte,Nat.reduceEqDiff,reduceCtorEq,px,Int.zero_add]
  rw [bM]
  simp (config:=KF) (disch:=omega) only [bZ,dZ,o_sliS,eA,Option.map_some,↓reduceIte,Nat.reduceEqDiff,Int.reduceLT,Int.reduceLE,reduceCtorEq,v1,y1]
  refine e1 _ ?_
  simp (config:=KF) (disch:=omega) only [bZ,o_x,aD,srcA,↓reduceIte,Nat.reduceEqDiff,reduceCtorEq,y8]
  refine h1 _ (fun x hx=>b9 (hne x hx).1) (p.length - f) _ ?_
  have hq1:((p.drop f).take (p.length - f)).length = p.length - f:=by rw [List.length_take,List.length_drop]; omega
  have hq2:(p.drop f).take (p.length - f) = p.drop f:=List.take_of_length_le (by rw [List.length_drop]; omega)
  refine pc_copy hb1 (by omega) (by omega) ?_
  rw [hq1,hq2,eJ]
  obtain ⟨c2,hc2⟩:∃ c,c = aL c1 0 (BB (p.drop f)):=⟨_,rfl⟩
  have hcl2:c2.length = cap:=by rw [hc2,em,hcl1]
  have hrb:r≠b:=h.ne
  have hb2:(st.set b c2).get b = some c2:=aw hltb
  have hg2:(st.set b c2).get r = some [.bs b 1 0 cap cap,.lit (.int .i64 (fr:Nat)),.lit (.int .i64 (l.length:Nat))]:=(cB (Ne.symm hrb)).trans hg
  rw [← hc2]
  simp (config:=KF) (disch:=omega) only [bZ,bu,cm,↓reduceIte,Nat.reduceEqDiff,Int.reduceAdd,reduceCtorEq,gj]
  rw [bM]
  simp (config:=KF) (disch:=omega) only [bZ,aU,aA,bK,retI,fT,aj,az,addA,aa,↓reduceIte,Nat.reduceEqDiff,Nat.reduceAdd,Nat.reduceLeDiff,Int.reduceLT,reduceCtorEq,gj,hg2]
  refine hQ _ _ ⟨rfl,?_,?_⟩
  · have hlt2:r < (st.set b c2).boxes.length:=by rw [eI]; exact hltr
    refine ⟨?_,⟨c2,(cB hrb).trans hb2,hcl2,?_⟩,hrb,hlt,by rw [List.length_append]; exact hn,hc⟩
    · rw [aw hlt2,List.length_append]
    · rw [hc2,hc1]
      exact rput_cells hbl hlt hcs hn ha hf
  · exact (Oth.set st b c2 (by simp)).trans (Oth.set _ r _ (by simp))

/-- The bytes of two pieces. -/
theorem rget_cells {cs:List AV} (hl:cs.length = cap) (hlt:fr < cap) (hle:l.length≤cap) (hb:∀ (j:Nat) (h:j < l.length),cs[(fr + j) % cap]? = some (bV l[j])) {n f:Nat} (hn:n≤l.length) (hf:min n (cap - fr) = f) :
    (cs.drop fr).take f = BB (l.take f)∧cs.take (n - f) = BB ((l.drop f).take (n - f)):=by
  have hBg:∀ (q:List UInt8) (i:Nat),(BB q)[i]? = (q[i]?).map bV:=fun q i=>by simp [BB]
  have hm:∀ j,j < cap→(fr + j) % cap = if fr + j < cap then fr + j else fr + j - cap:=fun j hj=>by
    split
    · rename_i e; exact Nat.mod_eq_of_lt e
    · rename_i e
      rw [Nat.mod_eq_sub_mod (by omega),Nat.mod_eq_of_lt (by omega)]
  constructor
  · apply List.ext_getElem?
    intro j
    rw [hBg,List.getElem?_take,List.getElem?_take,List.getElem?_drop]
    by_cases hj:j < f
    · rw [if_pos hj,if_pos hj]
      have:=hb j (by omega)
      rw [hm j (by omega),if_pos (by omega)] at this
      rw [this,List.getElem?_eq_getElem (by omega)]
      rfl
    · rw [if_neg hj,if_neg hj]; rfl
  · apply List.ext_getElem?
    intro j
    rw [hBg,List.getElem?_take,List.getElem?_take,List.getElem?_drop]
    by_cases hj:j < n - f
    · rw [if_pos hj,if_pos hj]
      have:=hb (f + j) (by omega)
      rw [hm (f + j) (by omega),if_neg (by omega)] at this
      rw [show fr + (f + j) - cap = j by omega] at this
      rw [this,List.getElem?_eq_getElem (by omega)]
      rfl
    · rw [if_neg hj,if_neg hj]; rfl

theorem pc_src {st:St} {b o n:Nat} {cs:List AV} {q:List UInt8} (hb:st.get b = some cs) (hl:o + n≤cs.length) (hq:(cs.drop o).take n = BB q) (hql:q.length = n) {m:Nat} (hm:n≤m) {K:List AV→Prop} (hK:K (BB q)):(srcA st 1 (cutS m (pcAV b o n))).wp K:=by
  unfold pcAV
  split
  · rename_i h
    have h0:q = []:=List.eq_nil_of_length_eq_zero (by omega)
    subst h0
    rw [pO,if_pos (show ([]:List AV).length≤m from Nat.zero_le _)]
    exact hK
  · rw [cutS_bs,if_pos hm]
    show (cT st b 1 o n).wp K
    unfold cT
    rw [hb]
    refine ⟨by simp; omega,?_⟩
    rw [lJ (by rw [List.length_drop]; omega),hq]
    exact hK

/-- What Peek gives: a new buffer. -/
theorem rpeek_calls (h:RgIs st r b cap fr l) {m:Nat} (hm:m≤2000000) (hl:l≠[]) :
    al Go.Proofs.Try.prog n_f77 [.ptr r 0,.lit (.int .i64 0),.lit (.int .i64 (m:Nat))] st (fun w st'=>w = .tup [.bs st.boxes.length 1 0 (min m l.length) (min m l.length),.lit (.int .i64 0)]∧st' = st.push (.cells (BB (l.take m)))):=by
  have hg:=h.get
  have hlt:=h.lt
  have hc:=h.c0
  have hle:=h.le
  have hl0:0 < l.length:=List.length_pos_iff.2 hl
  obtain ⟨cs,hb,hbl,hcs⟩:=h.buf
  refine ao hmix k_f77 rfl rfl fun Q hQ=>?_
  unfold aFun c_f77
  simp (config:=KF) (disch:=omega) only [bZ,id,↓reduceIte,Nat.reduceEqDiff,Nat.reduceAdd,reduceCtorEq]
  refine am rfl e_f58 (en h) rfl ?_
  simp (config:=KF) (disch:=omega) only [bZ,AI.dst,o_mn,o_x,aj,aD,addA,aa,du,mZ,m5,↓reduceIte,Nat.reduceEqDiff,Int.reduceLT,reduceCtorEq,Nat.sub_zero,up_subL,hg]
  obtain ⟨n,hn⟩:∃ n,min m l.length = n:=⟨_,rfl⟩
  have e1:(if (l.length:Int) < (m:Int) then (l.length:Int) else (m:Int)) = (n:Int):=by split <;> omega
  have e2:l.take m = l.take n:=by
    rw [← hn]
    by_cases h:m≤l.length
    · rw [Nat.min_eq_left h]
    · rw [Nat.min_eq_right (by omega),List.take_length,List.take_of_length_le (by omega)]
  rw [hn,e2] at hQ
  rw [e1]
  have hrep:(List.replicate n (AV.lit (.int .u8 0))).flatMap AV.cells = List.replicate n (.lit (.int .u8 0)):=by
    rw [Lits.cells]
    intro x hx
    exact ⟨_,List.eq_of_mem_replicate hx⟩
  simp (config:=KF) (disch:=omega) only [bZ,bu,lenI,id,↓reduceIte,Nat.reduceEqDiff,reduceCtorEq,mt,hrep]
  obtain ⟨i,hi⟩:∃ i,i = st.boxes.length:=⟨_,rfl⟩
  obtain ⟨s0,hs0⟩:∃ s,s = st.push (.cells (List.replicate n (.lit (.int .u8 0)))):=⟨_,rfl⟩
  have hgi:s0.get i = some (List.replicate n (.lit (.int .u8 0))):=by rw [hs0,hi]; exact bA _ _
  have hseti:∀ c,s0.set i c = st.push (.cells c):=fun c=>by rw [hs0,hi]; exact nf _ _ _
  have hltr:=h.ltr
  have hltb:=h.ltb
  have h0:RgIs s0 r b cap fr l:=h.at (by rw [hs0]; exact bR hltr) (by rw [hs0]; exact bR hltb)
  have hfr:(fr + 0) % cap = fr:=Nat.mod_eq_of_lt hlt
  obtain ⟨f,hf⟩:∃ f,min n (cap - fr) = f:=⟨_,rfl⟩
  have hnl:n≤l.length:=by omega
  have hfn:f≤n:=by omega
  have hpc:=gn h0 (o:=0) (n:=n) (Nat.zero_le _) (by omega)
  rw [hfr,hf] at hpc
  rw [← hi] at hQ ⊢
  rw [← hs0]
  obtain ⟨x1,x2,x3,x4,x5,x6,x7,x8⟩:=fZ b fr f
  obtain ⟨y1,y2,y3,y4,y5,y6,y7,y8⟩:=fZ b 0 (n - f)
  have hb0:s0.get b = some cs:=by rw [hs0,cn hltb]; exact hb
  obtain ⟨g1,g2⟩:=rget_cells hbl hlt hle hcs hnl hf
  refine am rfl e_f83 hpc rfl ?_
  simp (config:=KF) (disch:=omega) only [bZ,↓reduceIte,Nat.reduceEqDiff,reduceCtorEq]
  rw [f77_28w]
  refine gX 3 ?_
  rw [bM]
  have hl1:(l.take f).length = f:=by rw [List.length_take]; omega
  have hl2:((l.drop f).take (n - f)).length = n - f:=by rw [List.length_take,List.length_drop]; omega
  have hib:i≠b:=by omega
  by_cases hn0:n = 0
  · subst hn0
    have hf0:f = 0:=by omega
    subst hf0
    have z1:∀ o,pcAV b o 0 = .sl false 1 []:=fun _=>rfl
    simp (config:=KF) (disch:=omega) only [bZ,bu,cm,dZ,gT,o_x,eA,fQ,gh,aD,iQ,cutS,lenS,sliB,sl3,ixTo,srcA,↓reduceIte,Nat.reduceEqDiff,Nat.reduceLeDiff,Int.reduceLT,Int.reduceLE,Nat.sub_zero,Int.zero_add,Int.add_zero,z1]
    rw [bM]
    simp (config:=KF) (disch:=omega) only [bZ,bu,cm,dZ,gT,o_x,eA,fQ,gh,aD,iQ,cutS,lenS,sliB,sl3,ixTo,srcA,↓reduceIte,Nat.reduceEqDiff,Nat.reduceLeDiff,Int.reduceLT,Int.reduceLE,Int.reduceAdd,Int.add_zero]
    rw [bM]
    simp (config:=KF) (disch:=omega) only [bZ,aU,aA,bK,retI,fT,pt,↓reduceIte,Nat.reduceEqDiff,Int.reduceLT]
    refine hQ _ _ ⟨rfl,?_⟩
    rw [hs0]; rfl
  · have hf0:0 < f:=by omega
    simp (config:=KF) (disch:=omega) only [bZ,dZ,gT,o_x,eA,fQ,gh,aD,lenS,sliB,sl3,ixTo,↓reduceIte,Nat.reduceEqDiff,Int.reduceLT,Int.reduceLE,Nat.sub_zero,if_pos,if_neg,x1]
    refine pc_src hb0 (by omega) g1 hl1 hfn ?_
    have c1:aL (List.replicate n (.lit (.int .u8 0))) 0 (BB (l.take f)) = BB (l.take f)++List.replicate (n - f) (.lit (.int .u8 0)):=by
      rw [setAt_zero (by rw [aK,hl1,List.length_replicate]; exact hfn),aK,hl1,List.drop_replicate]
    simp (config:=KF) (disch:=omega) only [bZ,bu,cm,iQ,↓reduceIte,Nat.reduceEqDiff,aK,kI,px,Int.zero_add,List.length_replicate,hgi,hl1,c1,hseti]
    have hgi1:(st.push (.cells (BB (l.take f)++List.replicate (n - f) (.lit (.int .u8 0))))).get i = some (BB (l.take f)++List.replicate (n - f) (.lit (.int .u8 0))):=by rw [hi]; exact bA _ _
    have hb1:(st.push (.cells (BB (l.take f)++List.replicate (n - f) (.lit (.int .u8 0))))).get b = some cs:=by rw [cn hltb]; exact hb
    rw [bM]
    by_cases hnf:n = f
    · subst hnf
      have z1:∀ o,pcAV b o 0 = .sl false 1 []:=fun _=>rfl
      simp (config:=KF) (disch:=omega) only [bZ,bu,cm,dZ,gT,o_x,eA,fQ,gh,aD,List.replicate_zero,iQ,cutS,lenS,sliB,sl3,ixTo,srcA,↓reduceIte,Nat.reduceEqDiff,Nat.reduceLeDiff,Int.reduceLT,Int.reduceLE,Int.reduceAdd,Int.add_zero,Nat.sub_self,z1]
      rw [bM]
      simp (config:=KF) (disch:=omega) only [bZ,aU,aA,bK,retI,fT,pt,↓reduceIte,Nat.reduceEqDiff,Int.reduceLT]
      refine hQ _ _ ⟨rfl,?_⟩
      simp
    · simp (config:=KF) (disch:=omega) only [bZ,dZ,gT,o_x,eA,fQ,gh,aD,lenS,sliB,sl3,ixTo,↓reduceIte,Nat.reduceEqDiff,Int.reduceLT,Int.reduceLE,if_pos,if_neg,y1]
      refine pc_src hb1 (by omega) g2 hl2 (Nat.le_refl _) ?_
      have c2:aL (BB (l.take f)++List.replicate (n - f) (.lit (.int .u8 0))) f (BB ((l.drop f).take (n - f))) = BB (l.take n):=by
        rw [gY (by rw [aK,hl1]) (by rw [aK,hl2,List.length_replicate]; exact Nat.le_refl _),aK,hl2,List.drop_replicate,Nat.sub_self,List.replicate_zero,List.append_nil,BB_app,← List.take_add,show f + (n - f) = n by omega]
      have hset2:∀ c d,(st.push (.cells d)).set i c = st.push (.cells c):=fun c d=>by rw [hi]; exact nf _ _ _
      simp (config:=KF) (disch:=omega) only [bZ,bu,cm,iQ,↓reduceIte,Nat.reduceEqDiff,Int.reduceAdd,aK,kI,gj,List.length_append,List.length_replicate,hgi1,hl1,hl2,c2,hset2]
      rw [bM]
      simp (config:=KF) (disch:=omega) only [bZ,aU,aA,bK,retI,fT,pt,↓reduceIte,Nat.reduceEqDiff,Int.reduceLT]
      exact hQ _ _ ⟨rfl,rfl⟩

theorem rskip_cells {cs:List AV} (hl:cs.length = cap) (hlt:fr < cap) (hle:l.length≤cap) (hb:∀ (j:Nat) (h:j < l.length),cs[(fr + j) % cap]? = some (bV l[j])) {n f:Nat} (hn:n≤l.length) (hf:min n (cap - fr) = f) :
    ∀ (j:Nat) (h:j < (l.drop n).length),(aL (aL cs fr (List.replicate f (.lit (.int .u8 0)))) 0 (List.replicate (n - f) (.lit (.int .u8 0))))[((fr + n) % cap + j) % cap]? = some (bV (l.drop n)[j]):=by
  intro j h
  have hld:(l.drop n).length = l.length - n:=List.length_drop
  have hm:(fr + (n + j)) % cap = if fr + (n + j) < cap then fr + (n + j) else fr + (n + j) - cap:=by
    split
    · rename_i e; exact Nat.mod_eq_of_lt e
    · rename_i e
      rw [Nat.mod_eq_sub_mod (by omega),Nat.mod_eq_of_lt (by omega)]
  have e0:((fr + n) % cap + j) % cap = (fr + (n + j)) % cap:=by rw [Nat.mod_add_mod,Nat.add_assoc]
  rw [e0,List.getElem_drop,← hb (n + j) (by omega)]
  rw [iG _ _ _ _ (by rw [em,List.length_replicate]; omega),iG _ _ _ _ (by rw [List.length_replicate]; omega),List.length_replicate,List.length_replicate]
  rw [if_neg,if_neg]
  · rw [hm]; intro e; split at e <;> omega
  · rw [hm]; intro e; split at e <;> omega

theorem lw (h:RgIs st r b cap fr l) {n:Nat} (hn:n≤l.length) :
    al Go.Proofs.Try.prog n_f78 [.ptr r 0,.lit (.int .i64 (n:Nat))] st (fun w st'=>w = .tup [.lit (.int .i64 (n:Nat)),.lit (.int .i64 0)]∧RgIs st' r b cap ((fr + n) % cap) (l.drop n)∧Oth st st' [r,b]):=by
  have hg:=h.get
  have hlt:=h.lt
  have hc:=h.c0
  have hle:=h.le
  have hrb:r≠b:=h.ne
  have hltb:=h.ltb
  have hltr:=h.ltr
  obtain ⟨cs,hb,hbl,hcs⟩:=h.buf
  refine ao hmix k_f78 rfl rfl fun Q hQ=>?_
  unfold aFun c_f78
  simp (config:=KF) (disch:=omega) only [bZ,id,↓reduceIte,Nat.reduceEqDiff,reduceCtorEq]
  refine am rfl e_f58 (en h) rfl ?_
  have e1:(if (l.length:Int) < (n:Int) then (l.length:Int) else (n:Int)) = (n:Int):=by split <;> omega
  simp (config:=KF) (disch:=omega) only [bZ,o_mn,aj,addA,aa,du,id,↓reduceIte,Nat.reduceEqDiff,reduceCtorEq,if_neg,hg]
  obtain ⟨f,hf⟩:∃ f,min n (cap - fr) = f:=⟨_,rfl⟩
  have hpc:=gn h (o:=0) (n:=n) (Nat.zero_le _) (by omega)
  rw [show (fr + 0) % cap = fr from Nat.mod_eq_of_lt hlt,hf] at hpc
  obtain ⟨x1,x2,x3,x4,x5,x6,x7,x8⟩:=fZ b fr f
  obtain ⟨y1,y2,y3,y4,y5,y6,y7,y8⟩:=fZ b 0 (n - f)
  refine am rfl e_f83 hpc rfl ?_
  simp (config:=KF) (disch:=omega) only [bZ,↓reduceIte,Nat.reduceEqDiff,reduceCtorEq]
  rw [f78_21w]
  refine gX 3 ?_
  rw [bM]
  simp (config:=KF) (disch:=omega) only [bZ,dZ,o_x,eA,aD,↓reduceIte,Nat.reduceEqDiff,Int.reduceLT,Int.reduceLE,reduceCtorEq,x1]
  refine pc_clear hb (by omega) ?_
  obtain ⟨c1,hc1⟩:∃ c,c = aL cs fr (List.replicate f (.lit (.int .u8 0))):=⟨_,rfl⟩
  have hcl1:c1.length = cap:=by rw [hc1,em,hbl]
  have hb1:(st.set b c1).get b = some c1:=aw hltb
  rw [← hc1]
  simp (config:=KF) (disch:=omega) only [bZ,bu,cm,putN,↓reduceIte,Nat.reduceEqDiff,reduceCtorEq,Int.zero_add]
  rw [bM]
  simp (config:=KF) (disch:=omega) only [bZ,dZ,o_x,eA,aD,↓reduceIte,Nat.reduceEqDiff,Int.reduceLT,Int.reduceLE,reduceCtorEq,y1]
  refine pc_clear hb1 (by omega) ?_
  rw [eJ]
  obtain ⟨c2,hc2⟩:∃ c,c = aL c1 0 (List.replicate (n - f) (.lit (.int .u8 0))):=⟨_,rfl⟩
  have hcl2:c2.length = cap:=by rw [hc2,em,hcl1]
  have hb2:(st.set b c2).get b = some c2:=aw hltb
  have hg2:(st.set b c2).get r = some [.bs b 1 0 cap cap,.lit (.int .i64 (fr:Nat)),.lit (.int .i64 (l.length:Nat))]:=(cB (Ne.symm hrb)).trans hg
  rw [← hc2]
  simp (config:=KF) (disch:=omega) only [bZ,bu,cm,putN,↓reduceIte,Nat.reduceEqDiff,Int.reduceAdd,reduceCtorEq]
  rw [bM]
  have e2:((fr + n:Nat):Int) % (cap:Int) = (((fr + n) % cap:Nat):Int):=(Int.natCast_emod _ _).symm
  have hlt2:r < (st.set b c2).boxes.length:=by rw [eI]; exact hltr
  simp (config:=KF) (disch:=omega) only [bZ,d7,bQ,dc,fD,cC,bL,bX,gZ,aQ,bt,aU,aA,bK,retI,fT,aj,az,lenI,addA,aa,mZ,bd,↓reduceIte,Nat.reduceEqDiff,Nat.reduceAdd,Nat.reduceLeDiff,Int.reduceLT,reduceCtorEq,n_rem,IntWalk.rem_in,gj,nc,aw,eJ,hg2,e2]
  refine hQ _ _ ⟨rfl,?_,?_⟩
  · refine ⟨?_,⟨c2,(cB hrb).trans hb2,hcl2,?_⟩,hrb,Nat.mod_lt _ (by omega),by rw [List.length_drop]; omega,hc⟩
    · rw [aw hlt2,List.length_drop]
    · rw [hc2,hc1]
      exact rskip_cells hbl hlt hle hcs hn hf
  · exact (Oth.set st b c2 (by simp)).trans (Oth.set _ r _ (by simp))

theorem lx (h:RgIs st r b cap fr l) {m:Nat} (hm:m≤2000000) :
    al Go.Proofs.Try.prog n_f66 [.ptr r 0,.lit (.int .i64 (m:Nat))] st (fun w st'=>∃ v fr',w = .tup [v,.lit (.int .i64 0)]∧MB v st' (BB (l.take m))∧RgIs st' r b cap fr' (l.drop m)∧Kp st st' [r,b]∧∀ x ∈ ah v,st.boxes.length≤x):=by
  have hltr:=h.ltr
  have hltb:=h.ltb
  have hg:=h.get
  refine ao hmix k_f66 rfl rfl fun Q hQ=>?_
  unfold aFun c_f66
  by_cases hl:l = []
  · subst hl
    have hpk:aG Go.Proofs.Try.prog n_f77 [.ptr r 0,.lit (.int .i64 0),.lit (.int .i64 (m:Nat))] st (.tup [.lit (.slice none 0 0),.lit (.int .i64 0)]):=by
      refine aV hmix k_f77 rfl rfl fun Q hQ=>?_
      unfold aFun c_f77
      simp (config:=KF) (disch:=omega) only [bZ,id,↓reduceIte,Nat.reduceEqDiff,Nat.reduceAdd,reduceCtorEq]
      refine am rfl e_f58 (en h) rfl ?_
      simp (config:=KF) (disch:=omega) only [bZ,aI,retI,AI.dst,aj,addA,aa,m5,↓reduceIte,Nat.reduceEqDiff,Int.reduceLT,reduceCtorEq,aP,hg]
      exact hQ _
    simp (config:=KF) (disch:=omega) only [bZ,id,↓reduceIte,Nat.reduceEqDiff,reduceCtorEq]
    refine am rfl e_f77 hpk rfl ?_
    simp (config:=KF) (disch:=omega) only [bZ,lenI,dN,id,↓reduceIte,Nat.reduceEqDiff,reduceCtorEq,not_true_eq_false]
    refine ap rfl e_f78 (lw h (n:=0) (Nat.zero_le _)) rfl fun w st1 hr=>?_
    obtain ⟨rfl,h1,ho⟩:=hr
    simp (config:=KF) (disch:=omega) only [bZ,retI,↓reduceIte,Nat.reduceEqDiff,reduceCtorEq]
    refine hQ _ _ ⟨.lit (.slice none 0 0),_,rfl,.inl ⟨rfl,by simp [BB]⟩,by simpa using h1,ho.kp (fun x hx=>hx),by simp [ah]⟩
  · simp (config:=KF) (disch:=omega) only [bZ,id,↓reduceIte,Nat.reduceEqDiff,reduceCtorEq]
    refine ap rfl e_f77 (rpeek_calls h hm hl) rfl fun w st1 hr=>?_
    obtain ⟨rfl,hs1⟩:=hr
    obtain ⟨n,hn⟩:∃ n,min m l.length = n:=⟨_,rfl⟩
    rw [hn]
    have htk:(l.take m).length = n:=by rw [List.length_take]; exact hn
    have hdr:l.drop m = l.drop n:=by
      by_cases h1:m≤l.length
      · rw [show n = m by omega]
      · rw [List.drop_eq_nil_of_le (by omega),List.drop_eq_nil_of_le (by omega)]
    simp (config:=KF) (disch:=omega) only [bZ,lenI,dN,id,own2_bs,↓reduceIte,Nat.reduceEqDiff,reduceCtorEq,not_true_eq_false]
    have h1:RgIs st1 r b cap fr l:=h.at (by rw [hs1]; exact bR hltr) (by rw [hs1]; exact bR hltb)
    refine ap rfl e_f78 (lw h1 (n:=n) (by omega)) rfl fun w st2 hr=>?_
    obtain ⟨rfl,h2,ho⟩:=hr
    simp (config:=KF) (disch:=omega) only [bZ,retI,pt,↓reduceIte,Nat.reduceEqDiff,reduceCtorEq]
    have hgi:st1.get st.boxes.length = some (BB (l.take m)):=by rw [hs1]; exact bA _ _
    have hi2:st2.get st.boxes.length = some (BB (l.take m)):=(ho.get (by simp; omega)).trans hgi
    refine hQ _ _ ⟨_,_,rfl,.inr ⟨st.boxes.length,n,[],by rw [aK,htk],by rw [List.append_nil]; exact hi2,by rw [aK,htk]; exact Nat.le_refl _,by rw [List.append_nil,aK,htk]; exact Nat.le_refl _⟩,by rw [hdr]; exact h2,⟨by rw [ho.1,hs1,aE]; omega,fun i hi hn=>?_⟩,by simp [ah]⟩
    rw [ho.2 i hn,hs1]
    exact bR hi
theorem rnew_calls (st:St) {c:Nat} (h1:1≤c) (h2:c≤4096) :
    al Go.Proofs.Try.prog n_f27 [.lit (.int .i64 (c:Nat))] st (fun w st'=>w = .tup [.ptr (st.boxes.length + 1) 0,.lit (.int .i64 0)]∧RgIs st' (st.boxes.length + 1) st.boxes.length c 0 []∧Kp st st' []):=by
  refine ao hmix k_f27 rfl rfl fun Q hQ=>?_
  unfold aFun c_f27
  have hrep:(List.replicate c (AV.lit (.int .u8 0))).flatMap AV.cells = List.replicate c (.lit (.int .u8 0)):=by
    rw [Lits.cells]
    intro x hx
    exact ⟨_,List.eq_of_mem_replicate hx⟩
  simp (config:=KF) (disch:=omega) only [bZ,retI,AI.dst,bu,mO,mP,o_x,bstV,aD,bj,dk,pr,mU,kF,d5,↓reduceIte,Nat.reduceEqDiff,Nat.reduceAdd,Nat.reduceLeDiff,reduceCtorEq,cG,aE,mt,hrep]
  refine hQ _ _ ⟨rfl,⟨?_,⟨List.replicate c (.lit (.int .u8 0)),?_,by simp,fun j h=>by simp at h⟩,by omega,by omega,Nat.zero_le _,h2⟩,⟨by rw [aE,aE]; omega,fun i hi _=>?_⟩⟩
  · have:=bA (st.push (.cells (List.replicate c (.lit (.int .u8 0))))) [.bs st.boxes.length 1 0 c c,.lit (.int .i64 0),.lit (.int .i64 0)]
    rw [aE] at this
    exact this
  · rw [cn (by rw [aE]; omega)]; exact bA _ _
  · rw [bR (by rw [aE]; omega)]; exact bR hi
end
end Go.Fx.YtbdjfccgkdgbfaaFx

