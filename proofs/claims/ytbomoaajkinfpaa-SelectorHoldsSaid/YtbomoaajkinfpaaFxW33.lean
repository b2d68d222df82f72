/- What the functions that the statement reaches compute: part 33. -/
import Derived.Test.YtbomoaajkinfpaaFxW32
namespace Go.Fx.YtbomoaajkinfpaaFx
open Go Go.Fx
attribute [local irreducible] aC runI aw aB

set_option maxRecDepth 100000
set_option maxHeartbeats 4000000

/-! The reference: its channels lie in a buffer. -/
abbrev Ch3:=Nat×List Int×Bool
def chC:List Ch3→List AV→List AV
  | c::cs,b::bs=>.lit (.int .i64 (c.1:Nat))::b::.lit (.bool c.2.2)::chC cs bs
  | _,_=>[]
theorem chC_snoc (c:Ch3) (b:AV):∀ {ch:List Ch3} {bs:List AV},bs.length = ch.length→chC (ch++[c]) (bs++[b]) = chC ch bs++[.lit (.int .i64 (c.1:Nat)),b,.lit (.bool c.2.2)]
  | [],[],_=>rfl
  | d :: cs, e :: bs, h => by
    have:=chC_snoc c b (ch:=cs) (bs:=bs) (by simpa using h)
    simp only [List.cons_append,chC,this]
theorem chC_drop:∀ {ch:List Ch3} {bs:List AV} (_:bs.length = ch.length) {i:Nat} (h:i < ch.length) (r:List AV),(chC ch bs++r).drop (i * 3) = .lit (.int .i64 (ch[i].1:Nat))::bs.getD i .any::.lit (.bool ch[i].2.2)::(chC ch bs++r).drop ((i + 1) * 3)
  | [],_,_,_,h,_=>by simp at h
  | c::cs,b::bs,hl,0,_,r=>by simp [chC]
  | c :: cs, b :: bs, hl, i + 1, h, r => by
    have:=chC_drop (ch:=cs) (bs:=bs) (by simpa using hl) (i:=i) (by simpa using h) r
    simp only [chC,List.cons_append,List.getElem_cons_succ,List.getD_cons_succ]
    rw [show (i + 1) * 3 = i * 3 + 1 + 1 + 1 by omega,show (i + 1 + 1) * 3 = (i + 1) * 3 + 1 + 1 + 1 by omega]
    simp only [List.drop_succ_cons]
    exact this

/-- Numbers, also in the middle of a buffer. -/
def JV (v:AV) (st:St) (l:List Int):Prop:=IV v st l∨∃ id off cap r0 r,v = .bs id 1 off l.length cap∧st.get id = some (r0++(ints l++r))∧r0.length = off
theorem JV.at {v:AV} {st st':St} {l:List Int} (h:JV v st l) (hb:∀ x ∈ ae v,st'.boxes[x]? = st.boxes[x]?):JV v st' l:=by
  rcases h with h | ⟨id,off,cap,r0,r,rfl,hg,hl⟩
  · exact .inl (h.at hb)
  · exact .inr ⟨id,off,cap,r0,r,rfl,(bt (hb id (by simp [ae]))).trans hg,hl⟩
/-- The same, as a cell jY it. -/
def CJ (b:AV) (st:St) (l:List Int):Prop:=JV b st l∨b = .sl true 1 []∧l = []
theorem CJ.at {b:AV} {st st':St} {l:List Int} (h:CJ b st l) (hb:∀ x ∈ ae b,st'.boxes[x]? = st.boxes[x]?):CJ b st' l:=h.imp (fun h=>h.at hb) _root_.id

def RefC (cv:AV) (st:St) (ch:List Ch3) (F:List Nat):Prop:=∃ bs:List AV,bs.length = ch.length∧KB 3 cv st (chC ch bs) ch.length∧(∀ (i:Nat) b c,bs[i]? = some b→ch[i]? = some c→CJ b st c.2.1)∧(∀ x ∈ ae cv,x ∈ F)∧∀ b ∈ bs,∀ x ∈ ae b,x ∈ F

section
variable {cv:AV} {st st':St} {ch:List Ch3} {F:List Nat}
theorem RefC.at (h:RefC cv st ch F) (hat:∀ x ∈ F,st'.boxes[x]? = st.boxes[x]?):RefC cv st' ch F:=by
  obtain ⟨bs,h1,h2,h3,h4,h5⟩:=h
  exact ⟨bs,h1,h2.at fun x hx=>hat x (h4 x hx),fun i b c hb hc=>(h3 i b c hb hc).at fun x hx=>hat x (h5 b (List.mem_of_getElem? hb) x hx),h4,h5⟩
theorem RefC.isCh (h:RefC cv st ch F):AV.isCh cv:=by
  obtain ⟨bs,h1,h2,h3,h4,h5⟩:=h
  obtain ⟨a1,a2,a3,a4,a5,a6,a7,a8⟩:=h2.facts
  exact ⟨a1,a2,a3,a4,a5,a6,a7⟩
theorem RefC.len (h:RefC cv st ch F):∀ st',lenI .sl st' cv = .ok (.lit (.int .i64 (ch.length:Nat))):=by
  obtain ⟨bs,h1,h2,h3,h4,h5⟩:=h
  obtain ⟨a1,a2,a3,a4,a5,a6,a7,a8⟩:=h2.facts
  exact a8
/-- One of the channels. -/
theorem RefC.get (h:RefC cv st ch F) {i:Nat} (hi:i < ch.length):∃ bi cap cs b,cv = .bs bi 3 0 ch.length cap∧st.get bi = some cs∧cs.drop (i * 3) = .lit (.int .i64 (ch[i].1:Nat))::b::.lit (.bool ch[i].2.2)::cs.drop ((i + 1) * 3)∧CJ b st ch[i].2.1∧(i + 1) * 3≤cs.length:=by
  obtain ⟨bs,h1,h2,h3,h4,h5⟩:=h
  rcases h2 with ⟨_,_,e⟩ | ⟨bi,cap,r,rfl,hg,q1,q2,q3⟩
  · omega
  · refine ⟨bi,cap,_,bs.getD i .any,rfl,hg,chC_drop h1 hi r,h3 i _ _ ?_ (List.getElem?_eq_getElem hi),?_⟩
    · rw [List.getD_eq_getElem?_getD,List.getElem?_eq_getElem (by omega)]; rfl
    · rw [List.length_append,q1]; omega
end

theorem rf_dis {cv:AV} (h:AV.isCh cv) (ws:List Wt):(AV.agg [cv,wtS ws]).dis = .agg [cv,wtS ws]∧(AV.agg [cv,wtS ws]).noL = true:=by
  obtain ⟨c1,c2,c3,c4,c5,c6,c7⟩:=h
  obtain ⟨w1,w2,w3,w4,w5,w6,w7,w8⟩:=jW ws
  constructor
  · rw [kK,List.map_cons,List.map_cons,c2,w2,List.map_nil]
  · simp only [bM,List.all_cons,List.all_nil,c5,w5,Bool.and_true]

section
variable {cv:AV} {st:St} {R:RS} {F:List Nat}
end
end Go.Fx.YtbomoaajkinfpaaFx

