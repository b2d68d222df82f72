/- What the functions that the statement reaches compute: part 38. -/
import Derived.Test.YtbomoaajkinfpaaFxW37
namespace Go.Fx.YtbomoaajkinfpaaFx
open Go Go.Fx
attribute [local irreducible] aC runI aB aE

set_option maxRecDepth 100000
set_option maxHeartbeats 4000000

theorem lM {ws:List Wt} {i:Int} {d:Bool} (h:bJ i d ws = none):qD ws i d = []:=by
  have:=first_qD ws i d
  rw [h] at this
  have e:decide ((cd none).1 ≥ 0) = false:=by simp [cd]
  rw [e] at this
  simpa using this.symm
theorem lN {ws:List Wt} {i:Int} {d:Bool} {a k:Nat} (h:bJ i d ws = some (a,k)) (hnd:(ws.map (·.1)).Nodup) (hv:∀ w ∈ ws,(w.2.map (·.1)).Nodup) :
    ∃ (ha:a < ws.length) (hk:k < ws[a].2.length),(∃ rest,qD ws i d = (ws[a].1,if d = true then ws[a].2[k].2.2 else 0)::rest)∧kR ws ws[a].1 i = (k:Int)∧wo ws[a].1 ws = ws.eraseIdx a:=by
  unfold bJ at h
  obtain ⟨a',h1,h2⟩:=Option.map_eq_some_iff.1 h
  obtain ⟨ha,hy,hbef⟩:=List.findIdx?_eq_some_iff_getElem.1 h1
  have ea:a' = a:=(Prod.mk.inj h2).1
  subst ea
  have hk2:ws[a'].2.findIdx (onC i d) = k:=by
    have:=(Prod.mk.inj h2).2
    rwa [show ws.getD a' (0,[]) = ws[a'] by simp [ha]] at this
  have hkl:k < ws[a'].2.length:=by
    rw [← hk2,List.findIdx_lt_length]
    exact List.any_eq_true.1 hy
  have hon:onC i d ws[a'].2[k] = true:=by
    have:=List.findIdx_getElem (w:=show ws[a'].2.findIdx (onC i d) < ws[a'].2.length by rw [hk2]; exact hkl)
    simpa [hk2] using this
  have hch:ws[a'].2[k].1 = i:=by
    unfold onC at hon
    simp only [Bool.and_eq_true,decide_eq_true_eq] at hon
    exact hon.1
  have hsp:ws = ws.take a'++ws[a']::ws.drop (a' + 1):=by rw [← List.drop_eq_getElem_cons ha,List.take_append_drop]
  refine ⟨ha,hkl,⟨qD (ws.drop (a' + 1)) i d,?_⟩,?_,?_⟩
  · have h0:qD (ws.take a') i d = []:=by
      unfold qD
      rw [List.filterMap_eq_nil_iff]
      intro w hw
      obtain ⟨q,hq,rfl⟩:=List.getElem_of_mem hw
      rw [List.length_take] at hq
      have:=hbef q (by omega)
      rw [List.getElem_take]
      unfold qW
      rw [List.find?_eq_none.2]
      · rfl
      · intro x hx
        have h3:(ws[q].2.any (onC i d)) = false:=by simpa using this
        exact List.any_eq_false.1 h3 x hx
    have h1:qW i d ws[a'] = some (ws[a'].1,if d = true then ws[a'].2[k].2.2 else 0):=by
      unfold qW
      have:ws[a'].2.find? (onC i d) = some ws[a'].2[k]:=by
        rw [List.find?_eq_some_iff_getElem]
        refine ⟨hon,k,hkl,rfl,fun j hj=>?_⟩
        have:=List.not_of_lt_findIdx (p:=onC i d) (xs:=ws[a'].2) (i:=j) (by rw [hk2]; exact hj)
        simpa using this
      rw [this]; rfl
    have h2:qD ws i d = qD (ws.take a') i d++qD (ws[a']::ws.drop (a' + 1)) i d:=by
      have:=congrArg (fun l=>qD l i d) hsp
      simp only [qD,List.filterMap_append] at this ⊢
      exact this
    rw [h2,h0,List.nil_append]
    unfold qD
    rw [List.filterMap_cons,h1]
  · unfold kR
    have hl:ap ws[a'].1 ws = some ws[a'].2:=cZ hnd (List.getElem_mem ha)
    rw [hl]
    simp only [Option.getD_some]
    have:ws[a'].2.findIdx? (fun x=>decide (x.1 = i)) = some k:=by
      rw [List.findIdx?_eq_some_iff_getElem]
      refine ⟨hkl,by simpa using hch,fun j hj=>?_⟩
      have hn:=hv _ (List.getElem_mem ha)
      have hne:ws[a'].2[j].1≠i:=fun e=>by
        have h3:(ws[a'].2.map (·.1))[j]'(by simp; omega) = (ws[a'].2.map (·.1))[k]'(by simpa using hkl):=by simp [e,hch]
        have:=(List.getElem_inj hn).1 h3
        omega
      simpa using hne
    rw [this]; rfl
  · rw [List.eraseIdx_eq_take_drop_succ]
    have hn2:=hnd
    rw [hsp,List.map_append,List.map_cons,List.nodup_append] at hn2
    obtain ⟨n1,n2,n3⟩:=hn2
    rw [List.nodup_cons] at n2
    have e1:wo ws[a'].1 (ws.take a') = ws.take a':=by
      unfold wo
      rw [List.filter_eq_self]
      intro w hw
      have:=n3 w.1 (List.mem_map_of_mem hw) ws[a'].1 List.mem_cons_self
      simpa using this
    have e2:wo ws[a'].1 (ws.drop (a' + 1)) = ws.drop (a' + 1):=by
      unfold wo
      rw [List.filter_eq_self]
      intro w hw
      have:w.1≠ws[a'].1:=fun e=>n2.1 (e ▸ List.mem_map_of_mem hw)
      simpa using this
    have key:∀ (A B:List Wt) (w:Wt),wo w.1 (A++w::B) = wo w.1 A++wo w.1 B:=fun A B w=>by simp [wo]
    have h2:wo ws[a'].1 ws = wo ws[a'].1 (ws.take a'++ws[a']::ws.drop (a' + 1)):=congrArg (wo ws[a'].1) hsp
    rw [h2,key,e1,e2]

theorem chC_set {c:Ch3} (b:AV):∀ {ch:List Ch3} {bs:List AV} (_:bs.length = ch.length) {i:Nat} (h:i < ch.length) (_:c.1 = ch[i].1) (_:c.2.2 = ch[i].2.2) (r:List AV),(chC ch bs++r).set (i * 3 + 1) b = chC (ch.set i c) (bs.set i b)++r
  | [],_,_,_,h,_,_,_=>by simp at h
  | d :: cs, e :: bs, hl, 0, _, h1, h2, r => by
    simp only [List.getElem_cons_zero] at h1 h2
    simp [chC,h1,h2]
  | d :: cs, e :: bs, hl, i + 1, h, h1, h2, r => by
    have:=chC_set (c:=c) b (ch:=cs) (bs:=bs) (by simpa using hl) (i:=i) (by simpa using h) (by simpa using h1) (by simpa using h2) r
    rw [List.set_cons_succ,List.set_cons_succ]
    simp only [chC,List.cons_append]
    rw [show (i + 1) * 3 + 1 = (i * 3 + 1) + 1 + 1 + 1 by omega]
    simp only [List.set_cons_succ]
    rw [this]

theorem ju:∀ {l:List AV} {i j:Nat} {b b':AV},i < j→l[i]? = some b→l[j]? = some b'→(l.flatMap ae).Nodup→∀ x ∈ ae b,x ∉ ae b'
  | [],_,_,_,_,_,h,_,_,_,_,_=>by simp at h
  | a::l,i,0,_,_,h,_,_,_,_,_,_=>by omega
  | a :: l, 0, j + 1, b, b', _, h1, h2, hn, x, hx, hx' => by
    simp only [List.getElem?_cons_zero,Option.some.injEq,List.getElem?_cons_succ] at h1 h2
    subst h1
    rw [List.flatMap_cons,List.nodup_append] at hn
    exact hn.2.2 x hx x (List.mem_flatMap.2 ⟨b',List.mem_of_getElem? h2,hx'⟩) rfl
  | a :: l, i + 1, j + 1, b, b', h, h1, h2, hn, x, hx, hx' => by
    simp only [List.getElem?_cons_succ] at h1 h2
    rw [List.flatMap_cons,List.nodup_append] at hn
    exact ju (by omega) h1 h2 hn.2.1 x hx hx'

section
variable {cv:AV} {st st1:St} {ch:List Ch3} {bs:List AV}
theorem RefM.lts (h:RefM cv st ch bs):∀ x ∈ ae cv++bs.flatMap ae,x < st.boxes.length:=by
  obtain ⟨h1,h2,h3,h4⟩:=h
  intro x hx
  rcases List.mem_append.1 hx with hx | hx
  · exact h2.lt x hx
  · obtain ⟨b,hb,hxb⟩:=List.mem_flatMap.1 hx
    obtain ⟨j,hj⟩:=List.mem_iff_getElem?.1 hb
    have hjl:=(List.getElem?_eq_some_iff.1 hj).1
    exact (h3 j b _ hj (List.getElem?_eq_getElem (by omega))).lt x hxb
/-- Other channels' buffers are apart. -/
theorem RefM.apart (h:RefM cv st ch bs) {i j:Nat} {b b':AV} (hi:bs[i]? = some b) (hj:bs[j]? = some b') (hne:i≠j):∀ x ∈ ae b,x ∉ ae b':=by
  obtain ⟨h1,h2,h3,h4⟩:=h
  have hn:=(List.nodup_append.1 h4).2.1
  intro x hx hx'
  rcases Nat.lt_or_gt_of_ne hne with q | q
  · exact ju q hi hj hn x hx hx'
  · exact ju q hj hi hn x hx' hx

/-- One channel's buffer is written anew. -/
theorem RefM.put {bi cap:Nat} {cs:List AV} {i:Nat} {b b1:AV} {buf1:List Int} (h:RefM cv st ch bs) (hi:i < ch.length) (hcv:cv = .bs bi 3 0 ch.length cap) (hg:st.get bi = some cs) (hb:bs[i]? = some b)
    (hk:Kp st st1 (ae b)) (hid:∀ x ∈ ae b1,x ∈ ae b∨st.boxes.length≤x) :
    st1.get bi = some cs∧Kp st (st1.set bi (cs.set (i * 3 + 1) b1)) (ae cv++bs.flatMap ae) ∧
    (MB b1 st1 (ints buf1)→(ae b1).Nodup→RefM cv (st1.set bi (cs.set (i * 3 + 1) b1)) (ch.set i (ch[i].1,buf1,ch[i].2.2)) (bs.set i b1)) ∧
    (CJ b1 st1 buf1→∃ F',RefC cv (st1.set bi (cs.set (i * 3 + 1) b1)) (ch.set i (ch[i].1,buf1,ch[i].2.2)) F'∧∀ x ∈ F',x ∈ ae cv++bs.flatMap ae∨st.boxes.length≤x∧x ∈ ae b1):=by
  have hap:=fun {j:Nat} {b':AV} (hj:bs[j]? = some b') (hne:j≠i)=>h.apart hj hb hne
  have hlt:=h.lts
  obtain ⟨h1,h2,h3,h4⟩:=h
  subst hcv
  have hbi:bi ∉ bs.flatMap ae:=fun e=>(List.nodup_append.1 h4).2.2 bi (by simp [ae]) bi e rfl
  have hbib:bi ∉ ae b:=fun e=>hbi (List.mem_flatMap.2 ⟨b,List.mem_of_getElem? hb,e⟩)
  have hbil:bi < st.boxes.length:=bj hg
  have hg1:st1.get bi = some cs:=(bz (hk.2 bi hbil hbib)).trans hg
  have hbb1:bi ∉ ae b1:=fun e=>(hid bi e).elim hbib fun q=>by omega
  have hkb:KB 3 (.bs bi 3 0 ch.length cap) (st1.set bi (cs.set (i * 3 + 1) b1)) (chC (ch.set i (ch[i].1,buf1,ch[i].2.2)) (bs.set i b1)) (ch.set i (ch[i].1,buf1,ch[i].2.2)).length:=by
    rcases h2 with ⟨e,_⟩ | ⟨id,cap',r,e,hg2,q1,q2,q3⟩
    · cases e
    · cases e
      rw [hg] at hg2
      cases hg2
      refine .inr ⟨bi,cap,r,by rw [List.length_set],?_,?_,by rw [List.length_set]; exact q2,?_⟩
      · rw [aU (bj hg1),chC_set (c:=(ch[i].1,buf1,ch[i].2.2)) b1 h1 hi rfl rfl]
      · exact kj (by rw [List.length_set,List.length_set]; exact h1)
      · rw [List.length_append,kj (by rw [List.length_set,List.length_set]; exact h1),List.length_set]
        rw [List.length_append,q1] at q3
        exact q3
  have hoth:∀ (j:Nat) b' c,j≠i→bs[j]? = some b'→ch[j]? = some c→MB b' (st1.set bi (cs.set (i * 3 + 1) b1)) (ints c.2.1):=fun j b' c hne hj hc=>by
    refine (h3 j b' c hj hc).at fun x hx=>?_
    have hxl:=hlt x (List.mem_append_right _ (List.mem_flatMap.2 ⟨b',List.mem_of_getElem? hj,hx⟩))
    rw [bE (fun e=>hbi (List.mem_flatMap.2 ⟨b',List.mem_of_getElem? hj,by rw [← e]; exact hx⟩)),hk.2 x hxl (hap hj hne x hx)]
  have hbl:i < bs.length:=by omega
  have hbm:b ∈ bs:=List.mem_of_getElem? hb
  refine ⟨hg1,⟨by rw [ce]; exact hk.1,fun id hid' hn=>?_⟩,fun hm hnd=>?_,fun hj=>?_⟩
  · simp only [List.mem_append,not_or] at hn
    rw [bE (fun e=>hn.1 (by simp [ae,e])),hk.2 id hid' fun e=>hn.2 (List.mem_flatMap.2 ⟨b,hbm,e⟩)]
  · refine ⟨by rw [List.length_set,List.length_set]; exact h1,hkb,fun j b' c hj hc=>?_,?_⟩
    · rw [List.getElem?_set] at hj hc
      by_cases e:i = j
      · subst e
        simp only [if_true,hbl,hi] at hj hc
        cases hj; cases hc
        exact hm.at fun x hx=>bE fun e=>hbb1 (e ▸ hx)
      · rw [if_neg e] at hj hc
        exact hoth j b' c (fun q=>e q.symm) hj hc
    · have hn:=List.nodup_append.1 h4
      refine List.nodup_append.2 ⟨hn.1,?_,fun x hx y hy e=>?_⟩
      · -- apart, with the new one
        have key:∀ (l:List AV) (i:Nat),l[i]? = some b→(l.flatMap ae).Nodup→(∀ x ∈ l.flatMap ae,x < st.boxes.length)→((l.set i b1).flatMap ae).Nodup∧∀ x ∈ (l.set i b1).flatMap ae,x ∈ l.flatMap ae∨st.boxes.length≤x:=fun l=>by
          induction l with
          | nil=>intro i hi; simp at hi
          | cons a l ih =>
            intro i hi hn hlt
            rw [List.flatMap_cons,List.nodup_append] at hn
            obtain ⟨n1,n2,n3⟩:=hn
            cases i with
            | zero =>
              simp only [List.getElem?_cons_zero,Option.some.injEq] at hi
              subst hi
              simp only [List.set_cons_zero,List.flatMap_cons,List.nodup_append,List.mem_append]
              refine ⟨⟨hnd,n2,fun x hx y hy e=>?_⟩,fun x hx=>?_⟩
              · subst e
                rcases hid x hx with q | q
                · exact n3 x q x hy rfl
                · have:=hlt x (by rw [List.flatMap_cons]; exact List.mem_append_right _ hy); omega
              · rcases hx with hx | hx
                · exact (hid x hx).imp .inl _root_.id
                · exact .inl (.inr hx)
            | succ i =>
              simp only [List.getElem?_cons_succ] at hi
              obtain ⟨k1,k2⟩:=ih i hi n2 fun x hx=>hlt x (by rw [List.flatMap_cons]; exact List.mem_append_right _ hx)
              simp only [List.set_cons_succ,List.flatMap_cons,List.nodup_append,List.mem_append]
              refine ⟨⟨n1,k1,fun x hx y hy e=>?_⟩,fun x hx=>?_⟩
              · subst e
                rcases k2 x hy with q | q
                · exact n3 x hx x q rfl
                · have:=hlt x (by rw [List.flatMap_cons]; exact List.mem_append_left _ hx); omega
              · rcases hx with hx | hx
                · exact .inl (.inl hx)
                · exact (k2 x hx).imp .inr _root_.id
        exact (key bs i hb hn.2.1 fun x hx=>hlt x (List.mem_append_right _ hx)).1
      · subst e
        obtain ⟨b',hb',hxb⟩:=List.mem_flatMap.1 hy
        simp only [ae,List.mem_singleton] at hx
        subst hx
        rcases List.mem_or_eq_of_mem_set hb' with q | q
        · exact hbi (List.mem_flatMap.2 ⟨b',q,hxb⟩)
        · subst q; exact hbb1 hxb
  · refine ⟨ae (.bs bi 3 0 ch.length cap)++bs.flatMap ae++ae b1,⟨bs.set i b1,by rw [List.length_set,List.length_set]; exact h1,hkb,fun j b' c hj' hc=>?_,fun x hx=>by simp [hx],fun b' hb' x hx=>?_⟩,fun x hx=>?_⟩
    · rw [List.getElem?_set] at hj' hc
      by_cases e:i = j
      · subst e
        simp only [if_true,hbl,hi] at hj' hc
        cases hj'; cases hc
        exact hj.at fun x hx=>bE fun e=>hbb1 (e ▸ hx)
      · rw [if_neg e] at hj' hc
        exact .inl (.inl (.inr (hoth j b' c (fun q=>e q.symm) hj' hc)))
    · rcases List.mem_or_eq_of_mem_set hb' with q | q
      · exact List.mem_append_left _ (List.mem_append_right _ (List.mem_flatMap.2 ⟨b',q,hx⟩))
      · subst q; exact List.mem_append_right _ hx
    · rcases List.mem_append.1 hx with hx | hx
      · exact .inl hx
      · rcases hid x hx with q | q
        · exact .inl (List.mem_append_right _ (List.mem_flatMap.2 ⟨b,hbm,q⟩))
        · exact .inr ⟨q,hx⟩
end
end Go.Fx.YtbomoaajkinfpaaFx

