/- What the functions that the statement reaches compute: part 25. -/
import Derived.Test.YtgmeefljgbaanaaFxW24
namespace Go.Fx.YtgmeefljgbaanaaFx
open Go Go.Fx
attribute [local irreducible] aC runI aF a9

set_option maxRecDepth 100000
set_option maxHeartbeats 4000000

/-! Rows of what was sent and received; the end of the law Holds. -/
def rowG (k:Nat) (vs:List AV):AV:=if vs = [] then .lit (.slice none 0 0) else .sl true k vs
theorem dj {k:Nat} {vs:List AV} (h:vs≠[]):rowG k vs = .sl true k vs:=if_neg h
theorem dS (k:Nat) (vs:List AV):(∀ s,kill s (rowG k vs) = rowG k vs)∧(rowG k vs).noL = true∧(rowG k vs).solid1 = true∧∀ st,lenI .sl st (rowG k vs).dis = .ok (.lit (.int .i64 (vs.length:Nat))):=by
  unfold rowG; split
  · rename_i h; rw [h]; exact ⟨fun _=>rfl,rfl,rfl,fun _=>rfl⟩
  · exact ⟨fun _=>rfl,rfl,rfl,fun _=>rfl⟩
theorem dv_dis (l:List (List UInt8)):(l.map dV).map AV.dis = l.map dV:=by rw [List.map_map]; exact List.map_congr_left fun _ _=>rfl
theorem RcsV.dis {P:Nat→Prop} {st:St}:∀ {es:List AV} {l:List Rc},RcsV P st es l→es.map AV.dis = es
  | [],[],_=>rfl
  | _::_,_::_,h=>by rw [List.map_cons,h.1.dis.1,RcsV.dis h.2]
  | [],_::_,h=>h.elim
  | _::_,[],h=>h.elim
theorem RcsV.app {P:Nat→Prop} {st:St}:∀ {es:List AV} {l:List Rc} {fs:List AV} {m:List Rc},RcsV P st es l→RcsV P st fs m→RcsV P st (es++fs) (l++m)
  | [],[],_,_,_,h=>h
  | _::_,_::_,_,_,h,k=>⟨h.1,RcsV.app h.2 k⟩
  | [],_::_,_,_,h,_=>h.elim
  | _::_,[],_,_,h,_=>h.elim
theorem RcsV.kp {st st':St} {F F':List Nat} (hk:Kp st st' F) (hf:∀ b ∈ F',b ∈ F∨st.boxes.length≤b):∀ {es:List AV} {l:List Rc},RcsV (fun b=>b ∉ F) st es l→RcsV (fun b=>b ∉ F') st' es l
  | [],[],_=>trivial
  | _ :: _, _ :: _, h => by
    obtain ⟨⟨w,h1,h2,h3⟩,h4⟩:=h
    refine ⟨⟨w,h1,h2.at fun b hb=>hk.2 b (h2.lt b hb) (h3 b hb),fun b hb q=>?_⟩,RcsV.kp hk hf h4⟩
    rcases hf b q with q | q
    · exact h3 b hb q
    · have:=h2.lt b hb; omega
  | [],_::_,h=>h.elim
  | _::_,[],h=>h.elim
theorem sent_getD {l:List (List UInt8)} {i:Nat} (h:i < l.length):(l.map dV).getD i .any = .sl false 1 (BB l[i]):=by
  rw [List.getD_eq_getElem?_getD,List.getElem?_map,List.getElem?_eq_getElem h]; rfl
theorem hold_end {st:St} {sent:List (List UInt8)} {got:List Rc} {es:List AV} {P:Nat→Prop} (hv:RcsV P st es got) (hm:Mt sent (got.map gB)) (hg:∀ r ∈ got,r.nm = me∧r.port = 5∧r.err = 0) (hl:got.length≤1000) (hl2:sent.length≤1000) {Q:AV→St→Prop} (hQ:∀ s,Q (.lit (.bool true)) s) :
    aC Go.Proofs.Try.prog id false f4_77 ⟨[(13,.lptr 13 0),(15,rowG 1 (sent.map dV)),(16,rowG 7 es)],[(13,[.lit (.string me),.lit (.int .i64 5)])]⟩ st (retQ [RI.tmp 10] Q):=by
  obtain ⟨k1,k2,k3,k4⟩:=dS 1 (sent.map dV)
  obtain ⟨j1,j2,j3,j4⟩:=dS 7 es
  have hes:=hv.len
  simp (config:=KF) (disch:=omega) only [bZ,↓reduceIte,Nat.reduceEqDiff,f4_77e]
  rw [f4_83w]
  refine dN (A:=Nat×Nat) (fun a=>got.length - a.1) (fun a=>⟨[(13,.lptr 13 0),(15,rowG 1 (sent.map dV)),(16,rowG 7 es),(20,.lit (.int .i64 (a.2:Nat))),(21,.lit (.int .i64 (a.1:Nat)))],[(13,[.lit (.string me),.lit (.int .i64 5)])]⟩) (fun _=>st)
    (fun a=>a.1≤got.length∧grd (sent.drop a.2) ((got.drop a.1).map gB)) (0,0) ⟨Nat.zero_le _,hm.turn⟩ (Sf.le_refl _) rfl ?_
  rintro ⟨j,at'⟩ ⟨i1,i2⟩ K hK hKe hKr
  simp only at i1 i2
  dsimp only
  by_cases hj:j < got.length
  · have hne:es≠[]:=fun e=>by rw [e] at hes; simp at hes; omega
    rw [List.drop_eq_getElem_cons hj,List.map_cons] at i2
    obtain ⟨x,hx,hxr⟩:=hv.get j hj
    have hgx:es.getD j .any = x:=by rw [List.getD_eq_getElem?_getD,hx]; rfl
    obtain ⟨xv,rfl,xd,_⟩:=hxr
    obtain ⟨g1,g2,g3⟩:=hg got[j] (List.getElem_mem hj)
    have hnx:=fun a sf h1 h2=>hK (j + 1,a) sf ⟨hj,h1⟩ (by simp only; omega) h2
    simp only at hnx
    generalize got[j] = r at i2 hgx xd g1 g2 g3
    obtain ⟨a1,a2,a3,a4,a5,a6,a7,a8⟩:=xd.facts
    unfold rcAV at hgx
    rw [g1,g2,g3] at hgx
    rw [dj hne] at hnx ⊢
    simp (config:=KF) (disch:=omega) only [bZ,ji,bU,ixSV,al,ixA,lenI,aa,aS,iN,eT,↓reduceIte,Nat.reduceEqDiff,Nat.reduceAdd,Nat.reduceLeDiff,bV,cU,bW,k1,hgx,hes,a2,a4]
    rw [f4_94w]
    refine dN (A:=Nat) (fun a=>sent.length - a) (fun a=>⟨[(13,.lptr 13 0),(15,rowG 1 (sent.map dV)),(16,.sl true 7 es),(20,.lit (.int .i64 (a:Nat))),(21,.lit (.int .i64 (j:Nat))),(22,.lptr 22 0)],[(13,[.lit (.string me),.lit (.int .i64 5)]),(22,[.lit (.int .i64 r.task),.lit (.string me),.lit (.int .i64 5),xv,.lit (.int .u64 (r.at_:Nat)),.lit (.bool r.cut),.lit (.int .i64 0)])]⟩) (fun _=>st)
      (fun a=>grd (sent.drop a) (gB r::(got.drop (j + 1)).map gB)) at' i2 (Sf.le_refl _) rfl ?_
    intro a ia K3 hK3 hKe3 hKr3
    have haP:a < sent.length:=by
      refine Nat.lt_of_not_le fun hle=>?_
      rw [List.drop_eq_nil_of_le hle] at ia
      exact ia.elim
    rw [List.drop_eq_getElem_cons haP] at ia
    have hge:=sent_getD haP
    have hpl2:(sent.map dV).length = sent.length:=List.length_map ..
    have hsn:sent.map dV≠[]:=fun e=>by rw [e] at hpl2; simp at hpl2; omega
    have hbg:=begins_pure (p:=sent[a]) xd r.cut
    have hnn:=ad_neq me me 5 5
    simp only [and_self,not_true,decide_false] at hnn
    have hK3':=hK3 (a + 1)
    cases hc:Bg sent[a] (gB r) with
    | true =>
      have hc':Bg sent[a] (r.data,r.cut) = true:=hc
      rw [hc'] at hbg
      have hfin:=fun sf=>hnx (a + 1) sf (grd_take ia hc)
      rw [dj hsn] at hfin ⊢
      generalize sent[a] = p at hge hbg
      unfold dV at hbg
      simp (config:=KF) (disch:=omega) only [bZ,dQ,eO,bf,qh,bd,ft,cW,aM,AI.dst,ixSV,ixA,lenI,addA,aa,id,eh,↓reduceIte,Nat.reduceEqDiff,Nat.reduceAdd,bV,fu,bW,hge,hpl2,a1]
      refine am (vs:=[.sl false 1 (BB p),xv,.lit (.bool r.cut)]) (by simp [a1,qa,gu]) e_f19 hbg (by simp [a5,lc,iM]) ?_
      simp (config:=KF) (disch:=omega) only [bZ,bh,cf,AI.dst,unA,↓reduceIte,Nat.reduceEqDiff]
      refine hKe3 _ _ _ ?_
      simp (config:=KF) (disch:=omega) only [bZ,aK,AI.dst,lenI,addA,aa,di,gI,↓reduceIte,Nat.reduceEqDiff,Nat.reduceAdd,Nat.reduceLeDiff,not_true_eq_false,bG,bY,hpl2,hnn]
      exact hfin _ (Sf.le_refl _)
    | false =>
      have hc':Bg sent[a] (r.data,r.cut) = false:=hc
      rw [hc'] at hbg
      have ia2:=grd_skip ia hc
      rw [dj hsn] at hK3' ⊢
      generalize sent[a] = p at hge hbg
      unfold dV at hbg
      simp (config:=KF) (disch:=omega) only [bZ,dQ,eO,bf,qh,bd,ft,cW,aM,AI.dst,ixSV,ixA,lenI,addA,aa,id,eh,↓reduceIte,Nat.reduceEqDiff,Nat.reduceAdd,bV,fu,bW,hge,hpl2,a1]
      refine am (vs:=[.sl false 1 (BB p),xv,.lit (.bool r.cut)]) (by simp [a1,qa,gu]) e_f19 hbg (by simp [a5,lc,iM]) ?_
      simp (config:=KF) (disch:=omega) only [bZ,AI.dst,unA,di,↓reduceIte,Nat.reduceEqDiff,bY]
      exact hK3' _ ia2 (by omega) (Sf.le_refl _)
  · obtain rfl:j = got.length:=by omega
    have hll:=j4 st
    rw [hes] at hll
    simp (config:=KF) (disch:=omega) only [bZ,bh,cf,↓reduceIte,Nat.reduceEqDiff,ci,hll]
    refine hKe _ _ _ ?_
    simp (config:=KF) (disch:=omega) only [bZ,aK,id,↓reduceIte]
    refine aq rfl e_f11 (cr _) rfl fun v s2 hr=>?_
    obtain ⟨rfl,_⟩:=hr
    simp (config:=KF) (disch:=omega) only [bZ,retI,↓reduceIte,Nat.reduceEqDiff]
    exact hQ _
end Go.Fx.YtgmeefljgbaanaaFx

