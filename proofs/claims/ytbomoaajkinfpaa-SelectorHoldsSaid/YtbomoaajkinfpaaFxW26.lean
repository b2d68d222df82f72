/- What the functions that the statement reaches compute: part 26. -/
import Derived.Test.YtbomoaajkinfpaaFxW25
namespace Go.Fx.YtbomoaajkinfpaaFx
open Go Go.Fx
attribute [local irreducible] aC runI aw aB

set_option maxRecDepth 100000
set_option maxHeartbeats 4000000

def okC (n:Int):Bool:=decide (0≤n∧n≤4096)
def okL (l:List Int):Bool:=decide (1≤l.length∧l.length≤16) && l.all okC
def newR (l:List Int):RS:=⟨l.map fun n=>(n.toNat,[],false),[]⟩

/-- A selector of its own boxes, all of them new. -/
def SelNew (st st':St) (s:Nat) (R:RS) (n:Nat):Prop:=∃ mid cv ov L,SelR st' s mid cv ov L R n∧∀ x ∈ ah s mid cv ov L,st.boxes.length≤x
theorem rel_news {L:List CL} {l:List Int} (h:L.map (·.P) = l.map fun n=>newP n.toNat) (hok:∀ n ∈ l,okC n = true):Rel L (fun _=>[])∧obs L = (newR l).ch∧BdL L 0:=by
  have key:∀ x ∈ L,∃ n,x.P = newP n∧n≤4096:=fun x hx=>by
    have:x.P ∈ L.map (·.P):=List.mem_map_of_mem hx
    rw [h] at this
    obtain ⟨n,hn,e⟩:=List.mem_map.1 this
    have h2:=hok n hn
    unfold okC at h2
    simp only [decide_eq_true_eq] at h2
    exact ⟨_,e.symm,by omega⟩
  refine ⟨fun i x hi=>?_,?_,fun x hx=>?_⟩
  · obtain ⟨n,e,_⟩:=key x (List.mem_of_getElem? hi)
    rw [e]; exact ⟨rfl,rfl⟩
  · have:obs L = (L.map (·.P)).map fun P=>(P.cap,P.buf,P.closed):=by simp [obs]
    rw [this,h]
    simp [newR,newP]
  · obtain ⟨n,e,hn⟩:=key x hx
    rw [e]; simp [Bd,newP,hn]

theorem mw {l:List Int} {v:AV} (hv0:v = intS l∨v = .sl false 1 (ints l)) (hl:l.length < 100000) (st:St):aA Go.Proofs.Try.prog n_f11 [v] st
    (fun r st'=>Kp st st' []∧if okL l = true then ∃ s,r = .tup [.ptr s 0,.lit (.int .i64 0)]∧SelNew st st' s (newR l) 0 else r = .tup [.lit (.pointer none),.lit (.int .i64 2)]):=by
  have hf:v.dis = v∧v.own1 = v∧v.own2 = v∧v.solid1 = true∧v.noL = true∧v.cells = [v]∧(∀ s,kill s v = v)∧∀ st',lenI .sl st' v = .ok (.lit (.int .i64 (l.length:Nat))):=by
    rcases hv0 with rfl | rfl
    · exact c9 l
    · exact ⟨rfl,rfl,rfl,rfl,rfl,rfl,fun _=>rfl,fun _=>by simp [lenI,al]⟩
  obtain ⟨v1,v2,v3,v4,v5,v6,v7,v8⟩:=hf
  refine ap hmix k_f11 rfl rfl fun Q hQ=>?_
  unfold aFun c_f11
  simp (config:=KF) (disch:=omega) only [bZ,AI.dst,↓reduceIte,Nat.reduceEqDiff,reduceCtorEq,v1,v8]
  have hbad:∀ st',Kp st st' []→okL l = false→Q (.tup [.lit (.pointer none),.lit (.int .i64 2)]) st':=fun st' hk hb=>hQ _ _ ⟨hk,by rw [if_neg (by simp [hb])]⟩
  refine bw (fun h1=>?_) (fun h1=>?_)
  · simp (config:=KF) (disch:=omega) only [bZ,retI,AI.dst,↓reduceIte,Nat.reduceEqDiff,reduceCtorEq]
    exact hbad _ (Kp.refl _ _) (by unfold okL; rw [decide_eq_false (by omega)]; rfl)
  simp (config:=KF) (disch:=omega) only [bZ,AI.dst,dZ,↓reduceIte,Nat.reduceEqDiff,reduceCtorEq,v1,v8]
  refine aP (fun h2=>?_) (fun h2=>?_)
  · simp (config:=KF) (disch:=omega) only [bZ,retI,↓reduceIte,Nat.reduceEqDiff,reduceCtorEq]
    exact hbad _ (Kp.refl _ _) (by unfold okL; rw [decide_eq_false (by omega)]; rfl)
  have hlen:1≤l.length∧l.length≤16:=by omega
  simp (config:=KF) (disch:=omega) only [bZ,iD,gO,fv,ep,cZ,↓reduceIte,Nat.reduceEqDiff,Nat.reduceAdd,Nat.reduceLeDiff,reduceCtorEq,aK,v1,v8]
  obtain ⟨n0,hn0⟩:∃ n,n = st.boxes.length:=⟨_,rfl⟩
  obtain ⟨st1,hs1⟩:∃ s,s = (st.push (.mp [] [] 0)).push (.cells [.lit (.slice none 0 0),.lit (.slice none 0 0),.map st.boxes.length]):=⟨_,rfl⟩
  have hl1:st1.boxes.length = n0 + 2:=by rw [hs1,aK,aK,hn0]
  have hsb:(st.push (.mp [] [] 0)).boxes.length = n0 + 1:=by rw [aK,hn0]
  have hc1:SelC st1 (n0 + 1) n0 (.lit (.slice none 0 0)) (.lit (.slice none 0 0)) [] [] []:=by
    refine ⟨?_,.inl ⟨rfl,rfl,rfl⟩,.inl ⟨rfl,rfl⟩,?_,(fun x hx=>by cases hx),⟨fun _=>0,fun i x hi=>by simp at hi,fun _ _=>rfl⟩,by simp [ae]⟩
    · have:=bI (st.push (.mp [] [] 0)) [.lit (.slice none 0 0),.lit (.slice none 0 0),.map st.boxes.length]
      rw [hsb,← hn0] at this
      rw [hs1,← hn0]; exact this
    · have:=(MapIs.new st .i64 csSl).push (.cells [.lit (.slice none 0 0),.lit (.slice none 0 0),.map st.boxes.length])
      rw [← hn0] at this
      rw [hs1,← hn0]; exact this
  have hk1:∀ i,i < n0→st1.boxes[i]? = st.boxes[i]?:=fun i hi=>by
    rw [hs1,bu (by omega),bu (by omega)]
  rw [← hs1,← hn0]
  clear hs1
  have hne:l≠[]:=fun e=>by rw [e] at hlen; simp at hlen
  have hv:v = .sl false 1 (ints l):=hv0.elim (fun e=>e.trans (if_neg hne)) fun e=>e
  rw [hv]
  rw [f11_15w]
  refine bj (A:=Nat×List CL×AV×St) (fun a=>l.length - a.1) (fun a=>⟨[(4,.ptr (n0 + 1) 0),(20,.sl false 1 (ints l)),(21,.lit (.int .i64 (l.length:Nat))),(22,.lit (.int .i64 (a.1:Nat)))],[]⟩) (fun a=>a.2.2.2)
    (fun a=>a.1≤l.length∧SelC a.2.2.2 (n0 + 1) n0 a.2.2.1 (.lit (.slice none 0 0)) a.2.1 [] []∧(∀ i,i < n0→a.2.2.2.boxes[i]? = st.boxes[i]?)∧n0 + 2≤a.2.2.2.boxes.length∧(∀ x ∈ ah (n0 + 1) n0 a.2.2.1 (.lit (.slice none 0 0)) a.2.1,n0≤x)∧a.2.1.map (·.P) = (l.take a.1).map (fun n=>newP n.toNat)∧∀ x ∈ l.take a.1,okC x = true)
    (0,[],.lit (.slice none 0 0),st1) ⟨Nat.zero_le _,hc1,hk1,by rw [hl1]; exact Nat.le_refl _,by simp [ah,ae],by simp,by simp⟩ (Sf.le_refl _) rfl ?_
  rintro ⟨k,L,cv,s⟩ ⟨h3,h4,h5,h6,h7,h8,h9⟩ K hK hKe hKr
  simp only at h3 h4 h5 h6 h7 h8 h9
  try dsimp only
  simp (config:=KF) (disch:=omega) only [bZ,↓reduceIte,Nat.reduceEqDiff]
  by_cases hk:k < l.length
  · rw [decide_eq_true (show (k:Int) < (l.length:Int) by omega)]
    have hgd:(ints l).getD k .any = .lit (.int .i64 l[k]):=by simp [ints,hk]
    have htk:l.take (k + 1) = l.take k++[l[k]]:=List.take_succ_eq_append_getElem hk
    simp (config:=KF) (disch:=omega) only [bZ,ixSV,aa,id,↓reduceIte,Nat.reduceEqDiff,hgd,al]
    by_cases hc:0≤l[k]∧l[k]≤4096
    · obtain ⟨m,hm⟩:∃ m:Nat,l[k] = (m:Int):=⟨l[k].toNat,by omega⟩
      rw [hm]
      refine au rfl e_f12 (cnew_calls (n:=m) (by omega) s) rfl fun r s2 hr=>?_
      obtain ⟨rfl,hc2,hk2⟩:=hr
      obtain ⟨x,hx⟩:∃ x:CL,x = ⟨s.boxes.length + 5,s.boxes.length + 1,s.boxes.length,s.boxes.length + 3,s.boxes.length + 2,s.boxes.length + 4,.lit (.slice none 0 0),newP m⟩:=⟨_,rfl⟩
      have hxi:x.is s2:=by rw [hx]; exact hc2
      have hxc:s.boxes.length + 5 = x.c:=by rw [hx]
      have hid:∀ b ∈ x.ids,s.boxes.length≤b:=fun b hb=>by
        rw [hx] at hb
        simp only [CL.ids,foot,ae,List.append_nil,List.mem_cons,List.not_mem_nil,or_false] at hb
        omega
      rw [hxc]
      have hgs:s2.get (n0 + 1) = _:=(bt (hk2.2 (n0 + 1) (by omega) (by simp))).trans h4.get
      have hkb:KB 1 cv s2 (ptrs L) L.length:=h4.chs.at fun y hy=>hk2.2 y (h4.lts y (by simp [ah,hy])) (by simp)
      obtain ⟨u1,u2,u3,u4,u5,u6,u7,u8⟩:=hkb.facts
      have hLl:L.length = k:=by have:=congrArg List.length h8; simpa [Nat.min_eq_left h3] using this
      have hkb2:=hkb
      rcases hkb2 with ⟨hcv,_⟩ | ⟨oi,ocap,obr,hcv,_⟩
      all_goals
        subst hcv
        simp (config:=KF) (disch:=omega) only [bZ,cY,gM,o_x,ai,bslV,ft,bb,List.reduceReplicate,addA,aa,srcA,bL,mkSl_ptr,bY,lU,gP,dt,↓reduceIte,Nat.reduceEqDiff,Nat.reduceLT,not_true_eq_false,hgs]
        refine KB.grow hkb (ptrs_own L) (new:=[.ptr x.c 0]) rfl (bytes:=8) (cy (by simp only [List.length_cons,List.length_nil]; omega)) fun cv' s3 g1 g2 g3=>?_
        obtain ⟨w1,w2,w3,w4,w5,w6,w7,w8⟩:=g1.facts
        have hnd:(ae cv').Nodup:=by
          rcases g1 with ⟨rfl,_⟩ | ⟨_,_,_,rfl,_⟩ <;> simp [ae]
        have hgs3:s3.get (n0 + 1) = _:=(bt (g2.2 (n0 + 1) (by have:=hk2.1; omega) (fun e=>by have:=h4.own; simp [e] at this))).trans hgs
        simp (config:=KF) (disch:=omega) only [bZ,bB,ai,am,addA,↓reduceIte,Nat.reduceEqDiff,Nat.reduceAdd,Nat.reduceLeDiff,hgs3,w1,w4,w6]
        have hsn:=h4.snoc hxi hk2 hid g1 g2 g3 hnd
        refine hK (k + 1,L++[x],cv',s3.set (n0 + 1) [cv',.lit (.slice none 0 0),.map n0]) _ ⟨by simp only; omega,hsn,fun i hi=>?_,?_,fun y hy=>?_,?_,fun y hy=>?_⟩ (by simp only; omega) (Sf.le_refl _)
        · simp only
          rw [ce (by omega),g2.2 i (by have:=hk2.1; omega) (fun e=>by have:=h7 i (by simp [ah,e]); omega),hk2.2 i (by omega) (by simp),h5 i hi]
        · simp only
          rw [cz]
          have:=g2.1
          have:=hk2.1
          omega
        · simp only [ah,List.flatMap_append,List.flatMap_cons,List.flatMap_nil,List.append_nil,List.mem_cons,List.mem_append] at hy
          rcases hy with e | e | (e | e) | e | e
          · omega
          · omega
          · have:=hk2.1
            exact (g3 y e).elim (fun q=>h7 y (by simp [ah,q])) fun q=>by omega
          · exact h7 y (by simp [ah,e])
          · exact h7 y (by simp only [ah,List.mem_cons,List.mem_append]; exact .inr (.inr (.inr e)))
          · have:=hid y e; omega
        · simp only
          rw [htk,List.map_append,List.map_append,h8,hm,hx]
          simp
        · simp only at hy
          rw [htk] at hy
          rcases List.mem_append.1 hy with hy | hy
          · exact h9 y hy
          · simp only [List.mem_singleton] at hy
            subst hy
            exact decide_eq_true hc
    · refine ao rfl e_f12 (cnew_err (n:=l[k]) (by omega) s) rfl ?_
      simp (config:=KF) (disch:=omega) only [bZ,↓reduceIte,Nat.reduceEqDiff,Int.reduceEq,not_false_eq_true]
      refine hKr _ _ ?_
      simp (config:=KF) (disch:=omega) only [bZ,retI,↓reduceIte,Nat.reduceEqDiff]
      refine hbad _ ⟨by omega,fun i hi _=>h5 i (by omega)⟩ ?_
      unfold okL
      rw [Bool.and_eq_false_iff]
      refine .inr ?_
      rw [List.all_eq_false]
      exact ⟨l[k],List.getElem_mem hk,by unfold okC; rw [decide_eq_false hc]; simp⟩
  · rw [decide_eq_false (show ¬ (k:Int) < (l.length:Int) by omega)]
    simp (config:=KF) (disch:=omega) only [bZ,aH,bf,↓reduceIte,Nat.reduceEqDiff]
    refine hKe _ _ _ ?_
    simp (config:=KF) (disch:=omega) only [bZ,retI,fU,↓reduceIte,Nat.reduceEqDiff]
    have hkl:k = l.length:=by omega
    subst hkl
    rw [List.take_length] at h8 h9
    obtain ⟨g1,g2,g3⟩:=rel_news h8 h9
    have hok:okL l = true:=by
      unfold okL
      rw [decide_eq_true hlen,Bool.true_and,List.all_eq_true]
      exact h9
    have hLl:L.length = l.length:=by have:=congrArg List.length h8; simpa using this
    refine hQ _ _ ⟨⟨by omega,fun i hi _=>h5 i (by omega)⟩,?_⟩
    rw [if_pos hok]
    refine ⟨n0 + 1,rfl,n0,cv,_,L,⟨SelC.is (ws:=[]) h4 fun _=>rfl,g1,g2,g3,⟨by simp [newR],by simp [newR],by simp [newR],by simp [newR]⟩,by simp [newR],by omega⟩,fun x hx=>by rw [← hn0]; exact h7 x hx⟩
end Go.Fx.YtbomoaajkinfpaaFx

