/- What the functions that the statement reaches compute: part 5. -/
import Derived.Test.YtgmeefljgbaanaaFxW4
namespace Go.Fx.YtgmeefljgbaanaaFx
open Go Go.Fx
attribute [local irreducible] aC runI aE bz

set_option maxRecDepth 100000
set_option maxHeartbeats 4000000

/-! Packets, in a buffer. -/
structure Pk where
  nm:ByteArray
  port:Int
  data:List UInt8
  at_:Nat
def pkAV (p:Pk):AV:=.agg [.lit (.string p.nm),.lit (.int .i64 p.port),.sl false 1 (BB p.data),.lit (.int .u64 (p.at_:Nat))]
def pcs:List Pk→List AV
  | []=>[]
  | p::r=>.lit (.string p.nm)::.lit (.int .i64 p.port)::.sl false 1 (BB p.data)::.lit (.int .u64 (p.at_:Nat))::pcs r
theorem ce:∀ l,(pcs l).length = l.length * 4
  | []=>rfl
  | p::r=>by simp only [pcs,List.length_cons,ce r]; omega
theorem oV:∀ a b,pcs (a++b) = pcs a++pcs b
  | [],_=>rfl
  | p::r,b=>by simp only [List.cons_append,pcs,oV r b]
theorem hZ:∀ l:List Pk,cellsD (l.map pkAV) = pcs l
  | []=>rfl
  | p :: r => by
    have:=hZ r
    unfold cellsD at this ⊢
    rw [List.map_cons,List.map_cons,List.flatMap_cons,this]
    rfl
theorem pcs_own:∀ l:List Pk,(pcs l).map AV.own1 = pcs l
  | []=>rfl
  | p::r=>by simp only [pcs,List.map_cons,pcs_own r]; rfl
theorem pcs_grp:∀ (l:List Pk) (r:List AV),grp 4 l.length (pcs l++r) = l.map pkAV
  | [],_=>rfl
  | p :: l, r => by
    rw [List.length_cons]
    simp only [pcs,grp,List.cons_append,List.map_cons]
    rw [show List.drop 4 (AV.lit (.string p.nm)::.lit (.int .i64 p.port)::.sl false 1 (BB p.data)::.lit (.int .u64 (p.at_:Nat))::(pcs l++r)) = pcs l++r from rfl,pcs_grp l r]
    rfl

def PB (v:AV) (st:St) (l:List Pk):Prop:=(v = .lit (.slice none 0 0)∧l = [])∨∃ id cap r,v = .bs id 4 0 l.length cap∧st.get id = some (pcs l++r)∧l.length≤cap∧cap * 4≤(pcs l++r).length
section
variable {v:AV} {st st':St} {l:List Pk}
theorem PB.facts (h:PB v st l):v.dis = v∧v.own1 = v∧v.own2 = v∧v.solid1 = true∧v.noL = true∧v.cells = [v]∧(∀ s,kill s v = v)∧∀ st',lenI .sl st' v = .ok (.lit (.int .i64 (l.length:Nat))):=by
  rcases h with ⟨rfl,rfl⟩ | ⟨id,cap,r,rfl,_⟩
  · exact ⟨rfl,rfl,rfl,rfl,rfl,rfl,fun _=>rfl,fun _=>rfl⟩
  · exact ⟨rfl,rfl,rfl,rfl,rfl,rfl,fun _=>rfl,fun _=>rfl⟩
theorem PB.at (h:PB v st l) (hb:∀ x ∈ af v,st'.boxes[x]? = st.boxes[x]?):PB v st' l:=by
  rcases h with h | ⟨id,cap,r,rfl,hg,h1,h2⟩
  · exact .inl h
  · exact .inr ⟨id,cap,r,rfl,(dA (hb id (by simp [af]))).trans hg,h1,h2⟩
theorem PB.lt (h:PB v st l):∀ x ∈ af v,x < st.boxes.length:=by
  rcases h with ⟨rfl,_⟩ | ⟨id,cap,r,rfl,hg,_⟩
  · simp [af]
  · intro x hx; simp only [af,List.mem_singleton] at hx; subst hx; exact bM hg
theorem PB.nil (st:St):PB (.lit (.slice none 0 0)) st []:=.inl ⟨rfl,rfl⟩
theorem PB.app (h:PB v st l) (hl:l.length < 100000) {new:List Pk} (hn:new.length < 100000) {C:AV→St→Prop} (hC:∀ v' st',PB v' st' (l++new)→Kp st st' (af v)→(∀ x ∈ af v',x ∈ af v∨st.boxes.length≤x)→C v' st'):appX false 4 56 v C st (new.map pkAV):=by
  rcases h with ⟨rfl,rfl⟩ | ⟨id,cap,r,rfl,hg,h1,h2⟩
  · refine ⟨rfl,fW (by rw [List.length_map]; omega),?_⟩
    cases new with
    | nil=>exact hC _ _ (PB.nil _) (Kp.refl _ _) (by simp [af])
    | cons p r =>
      refine fun c hc=>hC _ _ (.inr ⟨st.boxes.length,c,List.replicate ((c - (p::r).length) * 4) .any,by simp,?_,by simpa using hc,?_⟩) ⟨by rw [bt]; omega,fun i hi _=>cz hi⟩ (by simp [af])
      · rw [hZ,List.length_map]
        simp only [List.nil_append]
        exact cd _ _
      · simp only [List.nil_append,List.length_append,List.length_replicate,ce,List.length_cons,List.length_map] at hc ⊢
        omega
  · have hid:=bM hg
    refine ⟨rfl,rfl,fW (by rw [List.length_map]; omega),?_⟩
    rw [hg]
    show (Res.ok _).wp _
    rw [ny,hZ,List.length_map]
    rw [List.length_append,ce] at h2
    split
    · rename_i hc
      have hsa:bD (pcs l++r) (0 + l.length * 4) (pcs new) = pcs (l++new)++r.drop (new.length * 4):=by
        rw [Nat.zero_add,gI (ce l).symm (by rw [ce]; omega),ce,oV]
        simp
      refine ⟨by rw [List.length_append,ce]; omega,hC _ _ (.inr ⟨id,cap,r.drop (new.length * 4),by simp,?_,by simpa using hc,?_⟩) ((Oth.set st id _ (S:=[id]) (by simp)).kp (by simp [af])) (by simp [af])⟩
      · rw [aZ hid,hsa]
      · rw [List.length_append,ce,List.length_append,List.length_drop]; omega
    · rename_i hc
      refine ⟨by rw [List.length_append,ce]; omega,fun c hc=>hC _ _ (.inr ⟨st.boxes.length,c,List.replicate ((c - (l.length + new.length)) * 4) .any,by simp,?_,by simpa using hc,?_⟩) ⟨by rw [bt]; omega,fun i hi _=>cz hi⟩ (by simp [af])⟩
      · rw [List.drop_zero,List.take_left' (ce l),pcs_own,← oV]
        exact cd _ _
      · simp only [List.length_append,List.length_replicate,ce]
        omega
/-- The first one goes. -/
theorem mO (p:Pk) (l:List Pk) {bv:AV} {st:St} (hm:PB bv st (p::l)) (hl:l.length < 100000) :
    aw Go.Proofs.Try.prog n_f71 [bv,.lit (.int .i64 0),.lit (.int .i64 1)] st (fun r st'=>PB r st' l∧af r = af bv∧Oth st st' (af bv)):=by
  rcases hm with ⟨_,e⟩ | ⟨bi,cap,r0,rfl,hg,h1,h2⟩
  · cases e
  simp only [List.length_cons] at h1 ⊢
  have hlt:=bM hg
  have hcs:(pcs (p::l)++r0).length = l.length * 4 + 4 + r0.length:=by rw [List.length_append,ce,List.length_cons]; omega
  rw [hcs] at h2
  have hdr:(pcs (p::l)++r0).drop 4 = pcs l++r0:=rfl
  refine aJ hmix k_f71 rfl rfl fun Q hQ=>?_
  unfold aFun c_f71
  have hz:List.flatMap AV.cells (List.replicate 1 (AV.agg [AV.lit (.string ⟨#[]⟩),.lit (.int .i64 0),.lit (.slice none 0 0),.lit (.int .u64 0)])) = [AV.lit (.string ⟨#[]⟩),.lit (.int .i64 0),.lit (.slice none 0 0),.lit (.int .u64 0)]:=rfl
  by_cases hc:cap = 1
  · have hl0:l = []:=List.eq_nil_of_length_eq_zero (by omega)
    subst hl0
    subst hc
    simp (config:=KF) (disch:=omega) only [bZ,cX,bO,cT,hh_sliS,aM,ba,and_self,retI,cb,o_sliS,o_sli3,dV,o_x,iu,sli3V,aD,List.reduceReplicate,appX,clrX,sliB,sl3,ixTo,lenI,srcA,putN,aW,lW,noL_bs,Option.map_some,Option.map_none,Int.toNat_one,↓reduceIte,Nat.reduceEqDiff,Nat.reduceAdd,Nat.reduceMul,Nat.reduceLeDiff,Int.reduceLE,Int.reduceEq,reduceCtorEq,Nat.sub_zero,fW,aZ,ff,g6,cellsD_nil,hg,hcs]
    refine hQ _ _ ⟨.inr ⟨bi,1,bD (pcs [p]++r0) 0 [AV.lit (.string ⟨#[]⟩),.lit (.int .i64 0),.lit (.slice none 0 0),.lit (.int .u64 0)],rfl,?_,by simp,?_⟩,rfl,Oth.set _ _ _ (by simp [af])⟩
    · rw [aZ hlt]; rfl
    · rw [List.length_append,jW,List.length_append,ce]; simp [pcs]
  · have hbs:cP st bi 4 4 l.length = .req true (.ok (l.map pkAV)):=by
      unfold cP
      rw [hg]
      simp only [Res.ofOpt,Res.bind,hdr,pcs_grp]
      congr 1
      rw [hcs]
      exact decide_eq_true (by omega)
    simp (config:=KF) (disch:=omega) only [bZ,cX,bO,cT,hh_sliS,aM,ba,retI,cb,o_sliS,o_sli3,dV,o_x,iu,sli3V,aD,appX,clrX,sliB,sl3,ixTo,lenI,srcA,putN,aW,lW,noL_bs,Option.map_some,Option.map_none,Int.toNat_natCast,Int.toNat_one,↓reduceIte,Nat.reduceEqDiff,Nat.reduceAdd,Nat.reduceMul,Int.reduceLE,Int.reduceEq,reduceCtorEq,Nat.sub_zero,List.length_map,el,fW,aZ,if_pos,if_neg,ff,jW,g6,hg,hcs,hc,Nat.add_one_sub_one,hbs]
    rw [hZ,show l.length + 1 - l.length = 1 by omega,hz,setAt_zero (by rw [hcs,ce]; omega)]
    have hll:((pcs (p::l)++r0).drop (pcs l).length).length = 4 + r0.length:=by rw [List.length_drop,hcs,ce]; omega
    rw [gI (ce l).symm (by rw [hll]; simp)]
    generalize (pcs (p::l)++r0).drop (pcs l).length = D at hll
    refine hQ _ _ ⟨.inr ⟨bi,cap,_,rfl,aZ hlt,by omega,?_⟩,rfl,Oth.set _ _ _ (by simp [af])⟩
    simp only [List.length_append,List.length_drop,List.length_cons,List.length_nil,ce,hll]
    omega
end
end Go.Fx.YtgmeefljgbaanaaFx

