/- What the functions that the statement reaches compute: part 18. -/
import Derived.Test.YtgmeefljgbaanaaFxW17
namespace Go.Fx.YtgmeefljgbaanaaFx
open Go Go.Fx
attribute [local irreducible] aC runI aF a9

set_option maxRecDepth 100000
set_option maxHeartbeats 4000000

/-! What was received is compared. -/
theorem iU {st:St} {v:AV} {p:List UInt8} (h:DV v st p) {K:AV→Prop} (hK:K (.lit (.string (str p)))):(hZ st .bs v).wp K:=by
  rcases h with ⟨rfl,rfl⟩ | rfl | ⟨id,cap,r,rfl,hg,h1,h2⟩
  · exact hK
  · rw [conv_sl]; exact hK
  · have:hZ st .bs (.bs id 1 0 p.length cap) = .req true (.ok (.lit (.string (str p)))):=by
      simp only [hZ,if_true,de,hg,jy,p9,Nat.mul_one,Nat.zero_add,List.drop_zero]
      rw [qe (by simp [bD]),show (BB p++r).take p.length = BB p from List.take_left' (bD p)]
      simp [bD,strOf_BB,Res.ofOpt,Res.bind]
    rw [this]
    exact ⟨rfl,hK⟩
theorem ba_beq (a b:ByteArray):(a.toList == b.toList) = decide (a = b):=by
  rw [ByteArray.toList_eq,ByteArray.toList_eq]
  refine Bool.eq_iff_iff.2 ?_
  simp only [beq_iff_eq,decide_eq_true_eq]
  constructor
  · intro h
    cases a; cases b
    simp only [ByteArray.mk.injEq]
    exact Array.ext' h
  · rintro rfl; rfl
theorem ad_eql (a b:ByteArray) (p q:Int):binI (.agg (.field 0 1 .str (.field 1 1 .int .tt))) .eql (.agg [.lit (.string a),.lit (.int .i64 p)]) (.agg [.lit (.string b),.lit (.int .i64 q)]) = .ok (.lit (.bool (decide (a = b∧p = q)))):=by
  have h:((a.toList == b.toList) && ((p == q) && true)) = decide (a = b∧p = q):=by
    rw [ba_beq]
    exact Bool.eq_iff_iff.2 (by simp)
  rw [← h]
  rfl
theorem ad_neq (a b:ByteArray) (p q:Int):binI (.agg (.field 0 1 .str (.field 1 1 .int .tt))) .neq (.agg [.lit (.string a),.lit (.int .i64 p)]) (.agg [.lit (.string b),.lit (.int .i64 q)]) = .ok (.lit (.bool (decide (¬ (a = b∧p = q))))):=by
  have h:(!((a.toList == b.toList) && ((p == q) && true))) = decide (¬ (a = b∧p = q)):=by
    rw [ba_beq]
    exact Bool.eq_iff_iff.2 (by simp)
  rw [← h]
  rfl
def eqRc (a b:Rc):Bool:=decide (a.task = b.task∧(a.nm = b.nm∧a.port = b.port)∧a.data = b.data∧a.at_ = b.at_∧a.cut = b.cut∧a.err = b.err)
theorem nL {st:St} {v w:AV} {a b:Rc} (hv:DV v st a.data) (hw:DV w st b.data) :
    az Go.Proofs.Try.prog n_f32 [rcAV a.task a.nm a.port v a.at_ a.cut a.err,rcAV b.task b.nm b.port w b.at_ b.cut b.err] st (.lit (.bool (eqRc a b))):=by
  obtain ⟨v1,v2,v3,v4,v5,v6,v7,v8⟩:=hv.facts
  obtain ⟨w1,w2,w3,w4,w5,w6,w7,w8⟩:=hw.facts
  refine aB hmix k_f32 rfl rfl fun Q hQ=>?_
  unfold aFun c_f32 rcAV
  have hae:=ad_eql a.nm b.nm a.port b.port
  unfold eqRc at hQ
  have hfin:∀ x,x = decide (a.task = b.task∧(a.nm = b.nm∧a.port = b.port)∧a.data = b.data∧a.at_ = b.at_∧a.cut = b.cut∧a.err = b.err)→∀ st',Q (.lit (.bool x)) st':=fun x hx st'=>by rw [hx]; exact hQ st'
  simp (config:=KF) (disch:=omega) only [bZ,AI.dst,fo,addA,aa,aS,↓reduceIte,Nat.reduceEqDiff,Nat.reduceAdd,reduceCtorEq,v2,v4,w2,w4]
  refine aZ (fun h1=>?_) (fun h1=>?_)
  · simp (config:=KF) (disch:=omega) only [bZ,AI.dst,addA,aa,↓reduceIte,Nat.reduceEqDiff,Nat.reduceAdd,Nat.reduceLeDiff,hae]
    refine aZ (fun h2=>?_) (fun h2=>?_)
    · simp (config:=KF) (disch:=omega) only [bZ,AI.dst,m8,addA,aa,↓reduceIte,Nat.reduceEqDiff,Nat.reduceAdd,v1]
      refine iU hv ?_
      simp (config:=KF) (disch:=omega) only [bZ,AI.dst,m8,addA,aa,↓reduceIte,Nat.reduceEqDiff,Nat.reduceAdd,w1]
      refine iU hw ?_
      simp (config:=KF) (disch:=omega) only [bZ,AI.dst,↓reduceIte,Nat.reduceEqDiff,qg]
      have hbe:binI .bool .eql (.lit (.bool a.cut)) (.lit (.bool b.cut)) = .ok (.lit (.bool (decide (a.cut = b.cut)))):=by
        cases a.cut <;> cases b.cut <;> rfl
      refine aZ (fun h3=>?_) (fun h3=>?_)
      · simp (config:=KF) (disch:=omega) only [bZ,AI.dst,addA,aa,↓reduceIte,Nat.reduceEqDiff,Nat.reduceAdd]
        refine aZ (fun h4=>?_) (fun h4=>?_)
        · simp (config:=KF) (disch:=omega) only [bZ,AI.dst,addA,aa,↓reduceIte,Nat.reduceEqDiff,hbe]
          refine aZ (fun h5=>?_) (fun h5=>?_)
          · simp (config:=KF) (disch:=omega) only [bZ,retI,AI.dst,addA,aa,↓reduceIte,Nat.reduceEqDiff]
            refine hfin _ ?_ _
            have h4':a.at_ = b.at_:=by omega
            simp only [h1,h2,h3,h4',h5,true_and]
          · simp (config:=KF) (disch:=omega) only [bZ,retI,AI.dst,↓reduceIte,Nat.reduceEqDiff]
            exact hfin _ (by simp [h5]) _
        · simp (config:=KF) (disch:=omega) only [bZ,retI,AI.dst,↓reduceIte,Nat.reduceEqDiff]
          refine hfin _ (decide_eq_false fun q=>h4 ?_).symm _
          rw [q.2.2.2.1]
      · simp (config:=KF) (disch:=omega) only [bZ,retI,AI.dst,↓reduceIte,Nat.reduceEqDiff]
        exact hfin _ (by simp [h3]) _
    · simp (config:=KF) (disch:=omega) only [bZ,retI,AI.dst,↓reduceIte,Nat.reduceEqDiff]
      exact hfin _ (by simp [h2]) _
  · simp (config:=KF) (disch:=omega) only [bZ,retI,AI.dst,↓reduceIte,Nat.reduceEqDiff]
    exact hfin _ (by simp [h1]) _

def gJ:List Rc→List Rc→Bool
  | [],[]=>true
  | a::r,b::s=>eqRc a b && gJ r s
  | _,_=>false
theorem px (a:Rc):eqRc a a = true:=by unfold eqRc; simp
theorem nM:∀ l:List Rc,gJ l l = true
  | []=>rfl
  | a::r=>by unfold gJ; rw [px,nM r]; rfl
theorem RcsV.len {P:Nat→Prop} {st:St}:∀ {es:List AV} {l:List Rc},RcsV P st es l→es.length = l.length
  | [],[],_=>rfl
  | _::_,_::_,h=>by rw [List.length_cons,List.length_cons,RcsV.len h.2]
  | [],_::_,h=>h.elim
  | _::_,[],h=>h.elim
theorem RcsV.get {P:Nat→Prop} {st:St}:∀ {es:List AV} {l:List Rc},RcsV P st es l→∀ (i:Nat) (hi:i < l.length),∃ e,es[i]? = some e∧RcV P st e l[i]
  | e::es,r::rs,h,0,_=>⟨e,rfl,h.1⟩
  | e :: es, r :: rs, h, i + 1, hi => by
    obtain ⟨e',h1,h2⟩:=RcsV.get h.2 i (by simpa using hi)
    exact ⟨e',by simpa using h1,h2⟩
  | [],[],_,i,hi=>absurd hi (Nat.not_lt_zero _)
  | [],_::_,h,_,_=>h.elim
  | _::_,[],h,_,_=>h.elim
theorem AllV.facts {P:Nat→Prop} {v:AV} {st:St} {l:List Rc} (h:AllV P false v st l):v.dis = v∧v.own1 = v∧v.own2 = v∧v.solid1 = true∧v.noL = true∧v.cells = [v]∧(∀ s,kill s v = v)∧∀ st',lenI .sl st' v = .ok (.lit (.int .i64 (l.length:Nat))):=by
  rcases h with ⟨rfl,rfl⟩ | ⟨es,rfl,h⟩
  · exact ⟨rfl,rfl,rfl,rfl,rfl,rfl,fun _=>rfl,fun _=>rfl⟩
  · exact ⟨rfl,rfl,rfl,rfl,rfl,rfl,fun _=>rfl,fun _=>by rw [lj,h.len]⟩
theorem RcV.dis {P:Nat→Prop} {st:St} {e:AV} {r:Rc} (h:RcV P st e r):e.dis = e∧e.cells.length = 7∧e.noL = true:=by
  obtain ⟨w,rfl,h1,h2⟩:=h
  obtain ⟨w1,w2,w3,w4,w5,w6,w7,w8⟩:=h1.facts
  unfold rcAV
  refine ⟨?_,rfl,rfl⟩
  rw [fH]
  simp [eg,w2]
theorem same_pure {st:St} {P P':Nat→Prop} {v w:AV} {a b:List Rc} (hv:AllV P false v st a) (hw:AllV P' false w st b) (ha:a.length < 100000) (hb:b.length < 100000) :
    az Go.Proofs.Try.prog n_f46 [v,w] st (.lit (.bool (gJ a b))):=by
  obtain ⟨v1,v2,v3,v4,v5,v6,v7,v8⟩:=hv.facts
  obtain ⟨w1,w2,w3,w4,w5,w6,w7,w8⟩:=hw.facts
  refine aB hmix k_f46 rfl rfl fun Q hQ=>?_
  unfold aFun c_f46
  have hlen:a.length≠b.length→gJ a b = false:=by
    clear hQ hv hw v8 w8 ha hb
    induction a generalizing b with
    | nil=>cases b <;> simp [gJ]
    | cons x r ih => cases b with
      | nil=>simp [gJ]
      | cons y s=>intro h; unfold gJ; rw [ih (by simpa using h),Bool.and_false]
  simp (config:=KF) (disch:=omega) only [bZ,↓reduceIte,Nat.reduceEqDiff,reduceCtorEq,v1,w1,v8,w8]
  refine ap (fun h=>?_) (fun h=>?_)
  · rw [hlen (by omega)] at hQ
    simp (config:=KF) (disch:=omega) only [bZ,retI,↓reduceIte,Nat.reduceEqDiff,reduceCtorEq]
    exact hQ _
  have hl:a.length = b.length:=by omega
  simp (config:=KF) (disch:=omega) only [bZ,↓reduceIte,Nat.reduceEqDiff,reduceCtorEq]
  rw [f46_13w]
  refine dN (A:=Nat) (fun i=>a.length - i) (fun i=>⟨[(0,v),(1,w),(5,.lit (.int .i64 (i:Nat)))],[]⟩) (fun _=>st)
    (fun i=>i≤a.length∧gJ (a.drop i) (b.drop i) = gJ a b) 0 ⟨Nat.zero_le _,rfl⟩ (by simp (config:=KF) (disch:=omega) only [bZ,↓reduceIte,Nat.reduceEqDiff,reduceCtorEq]; exact Sf.le_refl _) rfl fun i hi K hK hKe hKr=>?_
  obtain ⟨i1,i2⟩:=hi
  simp (config:=KF) (disch:=omega) only [bZ,↓reduceIte,Nat.reduceEqDiff,reduceCtorEq,v1,v8]
  refine ap (fun c=>?_) (fun c=>?_)
  · have hia:i < a.length:=by omega
    have hib:i < b.length:=by omega
    rcases hv with ⟨_,e⟩ | ⟨es,rfl,hes⟩
    · rw [e] at hia; cases hia
    rcases hw with ⟨_,e⟩ | ⟨fs,rfl,hfs⟩
    · rw [e] at hib; cases hib
    obtain ⟨x,hx,hxr⟩:=hes.get i hia
    obtain ⟨y,hy,hyr⟩:=hfs.get i hib
    have hgx:es.getD i .any = x:=by rw [List.getD_eq_getElem?_getD,hx]; rfl
    have hgy:fs.getD i .any = y:=by rw [List.getD_eq_getElem?_getD,hy]; rfl
    have hel:=hes.len
    have hfl:=hfs.len
    obtain ⟨d1,d2,d3⟩:=hxr.dis
    obtain ⟨e1,e2,e3⟩:=hyr.dis
    obtain ⟨xv,rfl,xd,_⟩:=hxr
    obtain ⟨yv,rfl,yd,_⟩:=hyr
    obtain ⟨a1,a2,a3,a4,a5,a6,a7,a8⟩:=xd.facts
    obtain ⟨b1,b2,b3,b4,b5,b6,b7,b8⟩:=yd.facts
    have heq:=nL (a:=a[i]) (b:=b[i]) xd yd
    unfold rcAV at hgx hgy heq
    simp (config:=KF) (disch:=omega) only [bZ,qh,bd,aM,ixSV,ixA,aa,id,↓reduceIte,Nat.reduceEqDiff,Nat.reduceAdd,Nat.reduceLeDiff,reduceCtorEq,bV,bW,hgx,hgy,hel,hfl,a2,b2]
    refine am (vs:=_) (by simp [a1,a2,b1,b2,fH,eg]) e_f32 heq (by simp [a5,b5,bk]) ?_
    have hda:a.drop i = a[i]::a.drop (i + 1):=List.drop_eq_getElem_cons hia
    have hdb:b.drop i = b[i]::b.drop (i + 1):=List.drop_eq_getElem_cons hib
    rw [hda,hdb,gJ] at i2
    cases hc:eqRc a[i] b[i] with
    | true =>
      rw [hc,Bool.true_and] at i2
      simp (config:=KF) (disch:=omega) only [bZ,unA,di,↓reduceIte,Nat.reduceEqDiff,reduceCtorEq,bY]
      exact hK (i + 1) _ ⟨by omega,i2⟩ (by omega) (Sf.le_refl _)
    | false =>
      rw [hc,Bool.false_and] at i2
      rw [← i2] at hQ
      simp (config:=KF) (disch:=omega) only [bZ,aE,unA,↓reduceIte,Nat.reduceEqDiff,reduceCtorEq]
      refine hKr _ _ ?_
      simp (config:=KF) (disch:=omega) only [bZ,aE,retI,↓reduceIte]
      exact hQ _
  · have hia:i = a.length:=by omega
    simp (config:=KF) (disch:=omega) only [bZ,bh,cf,↓reduceIte,Nat.reduceEqDiff,reduceCtorEq]
    refine hKe _ _ _ ?_
    simp (config:=KF) (disch:=omega) only [bZ,aK,retI,↓reduceIte]
    rw [← i2,List.drop_of_length_le (by omega),List.drop_of_length_le (by omega)] at hQ
    exact hQ _
end Go.Fx.YtgmeefljgbaanaaFx

