/- What the functions that the statement reaches compute: part 6. -/
import Derived.Test.YtgmeefljgbaanaaFxW5
namespace Go.Fx.YtgmeefljgbaanaaFx
open Go Go.Fx
attribute [local irreducible] aC runI aF a9

set_option maxRecDepth 100000
set_option maxHeartbeats 4000000

/-! Packets, in a buffer. -/
structure Pk where
  nm:ByteArray
  port:Int
  data:List UInt8
  at_:Nat
def pkAV (p:Pk):AV:=.agg [.lit (.string p.nm),.lit (.int .i64 p.port),.sl false 1 (BB p.data),.lit (.int .u64 (p.at_:Nat))]
def pcs:List Pk→List AV
  | []=>[]
  | p::r=>.lit (.string p.nm)::.lit (.int .i64 p.port)::.sl false 1 (BB p.data)::.lit (.int .u64 (p.at_:Nat))::pcs r
theorem cu:∀ l,(pcs l).length = l.length * 4
  | []=>rfl
  | p::r=>by simp only [pcs,List.length_cons,cu r]; omega
theorem qw:∀ a b,pcs (a++b) = pcs a++pcs b
  | [],_=>rfl
  | p::r,b=>by simp only [List.cons_append,pcs,qw r b]
theorem iX:∀ l:List Pk,cellsD (l.map pkAV) = pcs l
  | []=>rfl
  | p :: r => by
    have:=iX r
    unfold cellsD at this ⊢
    rw [List.map_cons,List.map_cons,List.flatMap_cons,this]
    rfl
theorem pcs_own:∀ l:List Pk,(pcs l).map AV.own1 = pcs l
  | []=>rfl
  | p::r=>by simp only [pcs,List.map_cons,pcs_own r]; rfl
theorem pcs_grp:∀ (l:List Pk) (r:List AV),grp 4 l.length (pcs l++r) = l.map pkAV
  | [],_=>rfl
  | p :: l, r => by
    rw [List.length_cons]
    simp only [pcs,grp,List.cons_append,List.map_cons]
    rw [show List.drop 4 (AV.lit (.string p.nm)::.lit (.int .i64 p.port)::.sl false 1 (BB p.data)::.lit (.int .u64 (p.at_:Nat))::(pcs l++r)) = pcs l++r from rfl,pcs_grp l r]
    rfl

def PB (v:AV) (st:St) (l:List Pk):Prop:=(v = .lit (.slice none 0 0)∧l = [])∨∃ id cap r,v = .bs id 4 0 l.length cap∧st.get id = some (pcs l++r)∧l.length≤cap∧cap * 4≤(pcs l++r).length
section
variable {v:AV} {st st':St} {l:List Pk}
theorem PB.facts (h:PB v st l):v.dis = v∧v.own1 = v∧v.own2 = v∧v.solid1 = true∧v.noL = true∧v.cells = [v]∧(∀ s,kill s v = v)∧∀ st',lenI .sl st' v = .ok (.lit (.int .i64 (l.length:Nat))):=by
  rcases h with ⟨rfl,rfl⟩ | ⟨id,cap,r,rfl,_⟩
  · exact ⟨rfl,rfl,rfl,rfl,rfl,rfl,fun _=>rfl,fun _=>rfl⟩
  · exact ⟨rfl,rfl,rfl,rfl,rfl,rfl,fun _=>rfl,fun _=>rfl⟩
theorem PB.at (h:PB v st l) (hb:∀ x ∈ ae v,st'.boxes[x]? = st.boxes[x]?):PB v st' l:=by
  rcases h with h | ⟨id,cap,r,rfl,hg,h1,h2⟩
  · exact .inl h
  · exact .inr ⟨id,cap,r,rfl,(bQ (hb id (by simp [ae]))).trans hg,h1,h2⟩
theorem PB.lt (h:PB v st l):∀ x ∈ ae v,x < st.boxes.length:=by
  rcases h with ⟨rfl,_⟩ | ⟨id,cap,r,rfl,hg,_⟩
  · simp [ae]
  · intro x hx; simp only [ae,List.mem_singleton] at hx; subst hx; exact bM hg
theorem PB.nil (st:St):PB (.lit (.slice none 0 0)) st []:=.inl ⟨rfl,rfl⟩
theorem PB.app (h:PB v st l) (hl:l.length < 100000) {new:List Pk} (hn:new.length < 100000) {C:AV→St→Prop} (hC:∀ v' st',PB v' st' (l++new)→Kp st st' (ae v)→(∀ x ∈ ae v',x ∈ ae v∨st.boxes.length≤x)→C v' st'):appX false 4 56 v C st (new.map pkAV):=by
  rcases h with ⟨rfl,rfl⟩ | ⟨id,cap,r,rfl,hg,h1,h2⟩
  · refine ⟨rfl,bX (by rw [List.length_map]; omega),?_⟩
    cases new with
    | nil=>exact hC _ _ (PB.nil _) (Kp.refl _ _) (by simp [ae])
    | cons p r =>
      refine fun c hc=>hC _ _ (.inr ⟨st.boxes.length,c,List.replicate ((c - (p::r).length) * 4) .any,by simp,?_,by simpa using hc,?_⟩) ⟨by rw [aI]; omega,fun i hi _=>bE hi⟩ (by simp [ae])
      · rw [iX,List.length_map]
        simp only [List.nil_append]
        exact bL _ _
      · simp only [List.nil_append,List.length_append,List.length_replicate,cu,List.length_cons,List.length_map] at hc ⊢
        omega
  · have hid:=bM hg
    refine ⟨rfl,rfl,bX (by rw [List.length_map]; omega),?_⟩
    rw [hg]
    show (Res.ok _).wp _
    rw [oV,iX,List.length_map]
    rw [List.length_append,cu] at h2
    split
    · rename_i hc
      have hsa:bu (pcs l++r) (0 + l.length * 4) (pcs new) = pcs (l++new)++r.drop (new.length * 4):=by
        rw [Nat.zero_add,iw (cu l).symm (by rw [cu]; omega),cu,qw]
        simp
      refine ⟨by rw [List.length_append,cu]; omega,hC _ _ (.inr ⟨id,cap,r.drop (new.length * 4),by simp,?_,by simpa using hc,?_⟩) ((Oth.set st id _ (S:=[id]) (by simp)).kp (by simp [ae])) (by simp [ae])⟩
      · rw [aR hid,hsa]
      · rw [List.length_append,cu,List.length_append,List.length_drop]; omega
    · rename_i hc
      refine ⟨by rw [List.length_append,cu]; omega,fun c hc=>hC _ _ (.inr ⟨st.boxes.length,c,List.replicate ((c - (l.length + new.length)) * 4) .any,by simp,?_,by simpa using hc,?_⟩) ⟨by rw [aI]; omega,fun i hi _=>bE hi⟩ (by simp [ae])⟩
      · rw [List.drop_zero,List.take_left' (cu l),pcs_own,← qw]
        exact bL _ _
      · simp only [List.length_append,List.length_replicate,cu]
        omega
/-- The first one goes. -/
theorem n7 (p:Pk) (l:List Pk) {bv:AV} {st:St} (hm:PB bv st (p::l)) (hl:l.length < 100000) :
    ao Go.Proofs.Try.prog n_f71 [bv,.lit (.int .i64 0),.lit (.int .i64 1)] st (fun r st'=>PB r st' l∧ae r = ae bv∧Oth st st' (ae bv)):=by
  rcases hm with ⟨_,e⟩ | ⟨bi,cap,r0,rfl,hg,h1,h2⟩
  · cases e
  simp only [List.length_cons] at h1 ⊢
  have hlt:=bM hg
  have hcs:(pcs (p::l)++r0).length = l.length * 4 + 4 + r0.length:=by rw [List.length_append,cu,List.length_cons]; omega
  rw [hcs] at h2
  have hdr:(pcs (p::l)++r0).drop 4 = pcs l++r0:=rfl
  refine aA hmix k_f71 rfl rfl fun Q hQ=>?_
  unfold aFun c_f71
  have hz:List.flatMap AV.cells (List.replicate 1 (AV.agg [AV.lit (.string ⟨#[]⟩),.lit (.int .i64 0),.lit (.slice none 0 0),.lit (.int .u64 0)])) = [AV.lit (.string ⟨#[]⟩),.lit (.int .i64 0),.lit (.slice none 0 0),.lit (.int .u64 0)]:=rfl
  by_cases hc:cap = 1
  · have hl0:l = []:=List.eq_nil_of_length_eq_zero (by omega)
    subst hl0
    subst hc
    simp (config:=KF) (disch:=omega) only [bZ,qi,aM,retI,cg,o_sliS,o_sli3,o_x,iq,sli3V,aH,List.reduceReplicate,appX,clrX,sliB,sl3,ixTo,lenI,srcA,putN,nc,noL_bs,Option.map_some,Option.map_none,Int.toNat_one,↓reduceIte,Nat.reduceEqDiff,Nat.reduceAdd,Nat.reduceMul,Nat.reduceLeDiff,Int.reduceLE,Int.reduceEq,reduceCtorEq,Nat.sub_zero,bX,aR,bW,fI,cellsD_nil,hg,hcs]
    refine hQ _ _ ⟨.inr ⟨bi,1,bu (pcs [p]++r0) 0 [AV.lit (.string ⟨#[]⟩),.lit (.int .i64 0),.lit (.slice none 0 0),.lit (.int .u64 0)],rfl,?_,by simp,?_⟩,rfl,Oth.set _ _ _ (by simp [ae])⟩
    · rw [aR hlt]; rfl
    · rw [List.length_append,lh,List.length_append,cu]; simp [pcs]
  · have hbs:de st bi 4 4 l.length = .req true (.ok (l.map pkAV)):=by
      unfold de
      rw [hg]
      simp only [Res.ofOpt,Res.bind,hdr,pcs_grp]
      congr 1
      rw [hcs]
      exact decide_eq_true (by omega)
    simp (config:=KF) (disch:=omega) only [bZ,qi,aM,retI,cg,o_sliS,o_sli3,o_x,iq,sli3V,aH,appX,clrX,sliB,sl3,ixTo,lenI,srcA,putN,nc,noL_bs,Option.map_some,Option.map_none,Int.toNat_one,↓reduceIte,Nat.reduceEqDiff,Nat.reduceAdd,Nat.reduceMul,Int.reduceLE,Int.reduceEq,reduceCtorEq,Nat.sub_zero,bV,bX,aR,if_pos,if_neg,bW,lh,fI,hg,hcs,hc,Nat.add_one_sub_one,hbs]
    rw [iX,show l.length + 1 - l.length = 1 by omega,hz,setAt_zero (by rw [hcs,cu]; omega)]
    have hll:((pcs (p::l)++r0).drop (pcs l).length).length = 4 + r0.length:=by rw [List.length_drop,hcs,cu]; omega
    rw [iw (cu l).symm (by rw [hll]; simp)]
    generalize (pcs (p::l)++r0).drop (pcs l).length = D at hll
    refine hQ _ _ ⟨.inr ⟨bi,cap,_,rfl,aR hlt,by omega,?_⟩,rfl,Oth.set _ _ _ (by simp [ae])⟩
    simp only [List.length_append,List.length_drop,List.length_cons,List.length_nil,cu,hll]
    omega
end
end Go.Fx.YtgmeefljgbaanaaFx

