/- What the functions that the statement reaches compute: part 16. -/
import Derived.Test.YtbomoaajkinfpaaFxW15
namespace Go.Fx.YtbomoaajkinfpaaFx
open Go Go.Fx
attribute [local irreducible] aC runI aw aB

set_option maxRecDepth 100000
set_option maxHeartbeats 4000000

def wos (ts:List Int) (ws:List Wt):List Wt:=ts.foldl (fun ws t=>wo t ws) ws
theorem wos_snoc (ts:List Int) (t:Int) (ws:List Wt):wos (ts++[t]) ws = wo t (wos ts ws):=by simp [wos]
theorem jm (ts:List Int) (t:Int) (ws:List Wt):wos (t::ts) ws = wos ts (wo t ws):=rfl
theorem nG (u:Int):∀ (ts:List Int) (ws:List Wt),u ∉ ts→ag u (wos ts ws) = ag u ws
  | [],_,_=>rfl
  | t :: ts, ws, h => by
    rw [jm,nG u ts (wo t ws) fun e=>h (List.mem_cons_of_mem _ e),eR,if_neg fun e=>h (by rw [e]; exact List.mem_cons_self)]
theorem ej:∀ (ts:List Int) (ws:List Wt),(wos ts ws).Sublist ws
  | [],_=>List.Sublist.refl _
  | t::ts,ws=>(ej ts (wo t ws)).trans List.filter_sublist

/-- Task, case, value, error. -/
abbrev It4:=Int×Int×Int×Int
def cu (x:It4):AV:=.agg [.lit (.int .i64 x.1),.lit (.int .i64 x.2.1),.lit (.int .i64 x.2.2.1),.lit (.int .i64 x.2.2.2)]
def it4s (l:List It4):AV:=if l = [] then .lit (.slice none 0 0) else .sl false 4 (l.map cu)
def oit4 (l:List It4):AV:=if l = [] then .lit (.slice none 0 0) else .sl true 4 (l.map cu)
theorem bE (l:List It4):(it4s l).dis = it4s l∧(it4s l).own1 = it4s l∧(it4s l).own2 = it4s l∧(it4s l).solid1 = true∧(it4s l).noL = true∧(it4s l).cells = [it4s l]∧∀ s,kill s (it4s l) = it4s l:=by
  unfold it4s; split <;> exact ⟨rfl,rfl,rfl,rfl,rfl,rfl,fun _=>rfl⟩
theorem mh (l:List It4):(oit4 l = .lit (.slice none 0 0)∧l = [])∨(oit4 l = .sl true 4 (l.map cu)∧l≠[]):=by
  unfold oit4
  by_cases h:l = []
  · rw [if_pos h]; exact .inl ⟨rfl,h⟩
  · rw [if_neg h]; exact .inr ⟨rfl,h⟩
/-- Which case of a waiting task is at a channel. -/
def mi (ws:List Wt) (t at':Int):Int:=ixI (((ag t ws).getD []).findIdx? fun x=>decide (x.1 = at'))
def cF (ws:List Wt) (at':Int) (x:It):It4:=(x.1,mi ws x.1 at',x.2.1,x.2.2)

/-- What is known of those that wait. -/
structure WOk (ws:List Wt) (n:Nat):Prop where
  nd:(ws.map (·.1)).Nodup
  rng:∀ w ∈ ws,∀ x ∈ w.2,0≤x.1∧x.1 < (n:Int)
  len:∀ w ∈ ws,w.2.length < 100000
  wl:ws.length < 100000
theorem WOk.sub {ws ws':List Wt} {n:Nat} (h:WOk ws n) (hs:ws'.Sublist ws):WOk ws' n :=
  ⟨h.nd.sublist (hs.map _),fun w hw=>h.rng w (hs.subset hw),fun w hw=>h.len w (hs.subset hw),Nat.lt_of_le_of_lt hs.length_le h.wl⟩

theorem iF {st:St} {s mid n:Nat} {cv ov:AV} {L:List CL} {ws:List Wt} (h:SelIs st s mid cv ov L ws) (hb:BdL L n) (hn:n < 100000) (hw:WOk ws L.length) {at':Int} {its:List It} (hnd:(its.map (·.1)).Nodup) (hil:its.length < 100000)
    (hin:∀ x ∈ its,∃ l,ag x.1 ws = some l) (hr:Rel L (fun i=>if (i:Int) = at' then wos (its.map (·.1)) ws else ws)) :
    aA Go.Proofs.Try.prog n_f57 [.ptr s 0,.lit (.int .i64 at'),bJ its] st (fun r st'=>r = it4s (its.map (cF ws at'))∧∃ L',dK st s mid cv ov L st' L' (wos (its.map (·.1)) ws)∧Rel L' (fun _=>wos (its.map (·.1)) ws)∧obs L' = obs L∧BdL L' n):=by
  refine ap hmix k_f57 rfl rfl fun Q hQ=>?_
  unfold aFun c_f57
  have hlt:=h.lts
  obtain ⟨v1,v2,v3,v4,v5,v6,v7⟩:=ca its
  have v8:∀ st',lenI .sl st' (bJ its) = .ok (.lit (.int .i64 (its.length:Nat))):=fun st'=>by
    unfold bJ
    split
    · rename_i e; subst e; rfl
    · simp [lenI]
  simp (config:=KF) (disch:=omega) only [bZ,iD,↓reduceIte,Nat.reduceEqDiff,Nat.reduceAdd,reduceCtorEq,f57_1e,v1,v8]
  obtain ⟨st1,hs1⟩:∃ s1,s1 = st.push (.cells [.lit (.int .i64 at')]):=⟨_,rfl⟩
  rw [← hs1]
  obtain ⟨tb,htb⟩:∃ b,b = st.boxes.length:=⟨_,rfl⟩
  rw [← htb]
  have hl1:st1.boxes.length = tb + 1:=by rw [hs1,aK,htb]
  have hk1:Kp st st1 []:=⟨by omega,fun i hi _=>by rw [hs1]; exact bu hi⟩
  have ht1:st1.get tb = some [.lit (.int .i64 at')]:=by rw [hs1,htb]; exact bI _ _
  clear hs1
  have h1:SelIs st1 s mid cv ov L ws:=h.kp hk1 fun _ _ e=>by cases e
  rw [f57_9w]
  have htn:∀ x ∈ ah s mid cv ov L,x≠tb:=fun x hx e=>by have:=hlt x hx; omega
  refine bj (A:=Nat×List CL×AV×AV×St) (fun a=>its.length - a.1) (fun a=>⟨[(0,.ptr s 0),(4,.ptr tb 0),(7,oit4 ((its.take a.1).map (cF ws at'))),(10,bJ its),(11,.lit (.int .i64 (its.length:Nat))),(12,.lit (.int .i64 (a.1:Nat)))],[]⟩) (fun a=>a.2.2.2.2)
    (fun a=>a.1≤its.length∧a.2.1.length = L.length∧SelIs a.2.2.2.2 s mid a.2.2.1 a.2.2.2.1 a.2.1 (wos ((its.take a.1).map (·.1)) ws)∧Kp st1 a.2.2.2.2 (ah s mid cv ov L)∧(∀ x ∈ ah s mid a.2.2.1 a.2.2.2.1 a.2.1,x ∈ ah s mid cv ov L∨st1.boxes.length≤x) ∧
      Rel a.2.1 (fun i=>if (i:Int) = at' then wos (its.map (·.1)) ws else wos ((its.take a.1).map (·.1)) ws)∧obs a.2.1 = obs L∧BdL a.2.1 n)
    (0,L,cv,ov,st1) ⟨Nat.zero_le _,rfl,h1,Kp.refl _ _,fun x hx=>.inl hx,hr,rfl,hb⟩ (Sf.le_refl _) rfl ?_
  · rintro ⟨k,L1,cv1,ov1,s1⟩ ⟨a1,a2,a3,a4,a5,a6,a7,a8⟩ K hK hKe hKr
    simp only at a1 a2 a3 a4 a5 a6 a7 a8
    try dsimp only
    have hgs:=a3.get
    have hts:s1.get tb = some [.lit (.int .i64 at')]:=(bt (a4.2 tb (by omega) fun e=>htn _ e rfl)).trans ht1
    by_cases hk:k < its.length
    · have hne:its≠[]:=fun e=>by subst e; simp at hk
      have hv:bJ its = .sl false 4 (its.map itAV):=if_neg hne
      have hgd:(its.map itAV).getD k .any = itAV its[k]:=by simp [hk]
      have htk:its.take (k + 1) = its.take k++[its[k]]:=List.take_succ_eq_append_getElem hk
      obtain ⟨l,hl⟩:=hin its[k] (List.getElem_mem hk)
      have hnot:its[k].1 ∉ (its.take k).map (·.1):=fun e=>by
        have h2:(its.map (·.1)).Nodup:=hnd
        rw [← List.take_append_drop k its,List.drop_eq_getElem_cons hk,List.map_append,List.map_cons] at h2
        exact (List.nodup_append.1 h2).2.2 _ e _ List.mem_cons_self rfl
      have hwk:WOk (wos ((its.take k).map (·.1)) ws) L.length:=hw.sub (ej _ _)
      have hlk:ag its[k].1 (wos ((its.take k).map (·.1)) ws) = some l:=(nG _ _ _ hnot).trans hl
      obtain ⟨M,hM,hMl⟩:=a3.mp
      obtain ⟨c1,c2,c3,c4,c5,c6,c7⟩:=cg l
      have hlu:∀ z,aZ (.int .i64) z false s1 (.map mid) (.lit (.int .i64 its[k].1)) = .ok (csSl l):=fun z=>by
        rw [aW hM,hMl,hlk]; simp [c1]
      have hlm:=fE hlk
      rcases mh ((its.take k).map (cF ws at')) with ⟨ho,ho2⟩ | ⟨ho,ho2⟩
      all_goals
        rw [ho,hv]
        simp (config:=KF) (disch:=omega) only [bZ,aU,dT,hh_mkfn,ixSV,ai,mkfnV,am,addA,aa,id,dt,b8,bN,List.nil_append,↓reduceIte,Nat.reduceEqDiff,Nat.reduceAdd,Nat.reduceLeDiff,reduceCtorEq,aM,hgd,itAV,hgs,hlu]
        refine ao (vs:=[csSl l,.fn (.func n_f72) [] [.ptr tb 0]]) (by simp [c1]; rfl) e_f71 (ixfC_pure hts (hwk.len _ hlm)) (by simp [c5]; rfl) ?_
        simp (config:=KF) (disch:=omega) only [bZ,am,addA,aa,id,↓reduceIte,Nat.reduceEqDiff,Nat.reduceAdd,Nat.reduceLeDiff,reduceCtorEq,hts]
        refine au rfl e_f58 (kq a3 a8 hn hwk.wl hlk (hwk.len _ hlm) (fun x hx=>by rw [a2]; exact hwk.rng _ hlm x hx) a6 (fun i hi=>if_neg hi) hwk.nd) rfl fun r s2 hr=>?_
        obtain ⟨rfl,L2,⟨cv2,ov2,b1,b2,b3⟩,b4,b5,b6⟩:=hr
        have hkl2:(its.take k).length = k:=by rw [List.length_take]; omega
        simp (config:=KF) (disch:=omega) only [bZ,cY,iC,bslV,i0,List.isEmpty_cons,List.reduceReplicate,aa,eg,dC,srcA,bL,bV,↓reduceIte,Nat.reduceEqDiff,Nat.reduceAdd,Nat.reduceLT,Nat.reduceLeDiff,reduceCtorEq,cy,hkl2]
        have hto:cF ws at' its[k] = (its[k].1,ixI (l.findIdx? fun x=>decide (x.1 = at')),its[k].2.1,its[k].2.2):=by
          unfold cF mi
          rw [hl]; rfl
        have hwk1:wos ((its.take (k + 1)).map (·.1)) ws = wo its[k].1 (wos ((its.take k).map (·.1)) ws):=by
          rw [htk,List.map_append,List.map_singleton,wos_snoc]
        refine hK (k + 1,L2,cv2,ov2,s2) _ ⟨by simp only; omega,?_,by simp only; rw [hwk1]; exact b1,a4.trans b2 a5,fun x hx=>(b3 x hx).elim (a5 x) fun e=>.inr (Nat.le_trans a4.1 e),?_,b5.trans a7,b6⟩ (by simp only; omega) ?_
        · have:=congrArg List.length b5
          simpa [obs,a2] using this
        · simp only
          rw [hwk1]
          intro i x hi
          have:=b4 i x hi
          by_cases e:(i:Int) = at' <;> simp only [e,if_true,if_false] at this ⊢ <;> exact this
        · have hne2:(its.take (k + 1)).map (cF ws at')≠[]:=by rw [htk,List.map_append]; exact List.append_ne_nil_of_right_ne_nil _ (by simp)
          have e1:oit4 ((its.take (k + 1)).map (cF ws at')) = .sl true 4 (((its.take k).map (cF ws at')).map cu++[cu (cF ws at' its[k])]):=by
            unfold oit4
            rw [if_neg hne2,htk,List.map_append,List.map_append]
            rfl
          simp only [e1,hv,hto,cu,ho2,List.map_nil,List.nil_append]
          exact Sf.le_refl _
    · have hkl:k = its.length:=by omega
      rcases mh ((its.take k).map (cF ws at')) with ⟨ho,ho2⟩ | ⟨ho,ho2⟩
      all_goals
        rw [ho]
        simp (config:=KF) (disch:=omega) only [bZ,aH,bf,↓reduceIte,Nat.reduceEqDiff,reduceCtorEq,aY]
        refine hKe _ _ _ ?_
        simp (config:=KF) (disch:=omega) only [bZ,retI,gv,↓reduceIte,Nat.reduceEqDiff]
        subst hkl
        rw [List.take_length] at *
        refine hQ _ _ ⟨by unfold it4s; first | rw [if_pos ho2] | rw [if_neg ho2],L1,dK.step (Kp.trans (F:=ah s mid cv ov L) ⟨hk1.1,fun id hid hn=>hk1.2 id hid (by simp)⟩ a4 fun x hx=>.inl hx) (fun x hx=>(a5 x hx).imp id fun e=>by omega) a3.self,fun i x hi=>?_,a7,a8⟩
        have:=a6 i x hi
        by_cases e:(i:Int) = at' <;> simp only [e,if_true,if_false] at this ⊢ <;> exact this
end Go.Fx.YtbomoaajkinfpaaFx

