/- What the functions that the statement reaches compute: part 32. -/
import Derived.Test.YtbomoaajkinfpaaFxW31
namespace Go.Fx.YtbomoaajkinfpaaFx
open Go Go.Fx
attribute [local irreducible] aC runI aD aL

set_option maxRecDepth 100000
set_option maxHeartbeats 4000000

/-! One channel: the reference's selector and a channel's state. -/
def SC (ws:List Wt):Prop:=∀ w ∈ ws,∃ d v,w.2 = [((0:Int),d,v)]
structure One (R:RS) (P:ChP):Prop where
  ch:R.ch = [(P.cap,P.buf,P.closed)]
  s:P.S.map (·.2) = qD R.ws 0 true
  v:P.V.map (·.2) = qD R.ws 0 false
  nd:(R.ws.map (·.1)).Nodup
  one:SC R.ws

theorem kb (w:Wt) (ws:List Wt) (i:Int) (d:Bool):qD (w::ws) i d = (match qW i d w with | some p=>[p] | none=>[])++qD ws i d:=by
  unfold qD
  rw [List.filterMap_cons]
  split <;> simp_all
theorem nX (t v:Int) (d e:Bool):qW 0 e (t,[((0:Int),d,v)]) = if d = e then some (t,if e = true then v else 0) else none:=by
  unfold qW onC
  cases d <;> cases e <;> simp
theorem nY {ws:List Wt} {i:Int} {d:Bool} {p:Int×Int} (h:p ∈ qD ws i d):p.1 ∈ ws.map (·.1):=by
  unfold qD at h
  obtain ⟨w,hw,he⟩:=List.mem_filterMap.1 h
  rw [jm he]
  exact List.mem_map_of_mem hw
theorem nZ {w:Wt} {ws:List Wt} (h:SC (w::ws)):SC ws:=fun x hx=>h x (List.mem_cons_of_mem _ hx)
theorem lO (t:Int):∀ {ws:List Wt} {l:List Cs},aj t ws = some l→(t,l) ∈ ws
  | (k, b) :: r, l, h => by
    simp only [aj] at h
    split at h
    · rename_i e
      cases h; subst e; simp
    · exact List.mem_cons_of_mem _ (lO t h)
theorem iF (t:Int):∀ {ws:List Wt},aj t ws = none→t ∉ ws.map (·.1)
  | [],_=>by simp
  | (k, b) :: r, h => by
    simp only [aj] at h
    split at h
    · cases h
    · rename_i e
      simp only [List.map_cons,List.mem_cons,not_or]
      exact ⟨e,iF t h⟩
/-- All waiting tasks, senders first. -/
theorem n9 {ws:List Wt} (h:SC ws) (t:Int):t ∈ ws.map (·.1)↔t ∈ (qD ws 0 true).map (·.1)∨t ∈ (qD ws 0 false).map (·.1):=by
  induction ws with
  | nil=>simp [qD]
  | cons w ws ih =>
    obtain ⟨u,l⟩:=w
    obtain ⟨d,v,hl⟩:=h (u,l) (List.mem_cons_self ..)
    simp only at hl
    subst hl
    rw [kb,kb,nX,nX]
    have ih':=ih (nZ h)
    cases d <;> simp only [List.map_cons,List.mem_cons,ih',if_true,Bool.false_eq_true,Bool.true_eq_false,reduceCtorEq,if_false,List.nil_append,List.cons_append,List.singleton_append]
    · exact ⟨fun h=>h.elim (fun h=>.inr (.inl h)) fun h=>h.elim .inl fun h=>.inr (.inr h),fun h=>h.elim (fun h=>.inr (.inl h)) fun h=>h.elim .inl fun h=>.inr (.inr h)⟩
    · exact ⟨fun h=>h.elim (fun h=>.inl (.inl h)) fun h=>h.elim (fun h=>.inl (.inr h)) .inr,fun h=>h.elim (fun h=>h.elim .inl fun h=>.inr (.inl h)) fun h=>.inr (.inr h)⟩
theorem sc_nd {ws:List Wt} (h:SC ws) (hn:(ws.map (·.1)).Nodup):((qD ws 0 true).map (·.1)++(qD ws 0 false).map (·.1)).Nodup:=by
  induction ws with
  | nil=>simp [qD]
  | cons w ws ih =>
    obtain ⟨u,l⟩:=w
    obtain ⟨d,v,hl⟩:=h (u,l) (List.mem_cons_self ..)
    simp only at hl
    subst hl
    rw [List.map_cons,List.nodup_cons] at hn
    have ih':=ih (nZ h) hn.2
    have hk:=mt (n9 (nZ h) u).2 hn.1
    rw [not_or] at hk
    rw [kb,kb,nX,nX]
    cases d
    · simp only [Bool.false_eq_true,if_false,if_true,List.nil_append,List.cons_append,List.map_cons]
      rw [List.nodup_append] at ih' ⊢
      obtain ⟨h1,h2,h3⟩:=ih'
      refine ⟨h1,List.nodup_cons.2 ⟨hk.2,h2⟩,fun a ha b hb e=>?_⟩
      rcases List.mem_cons.1 hb with hb | hb
      · subst e; subst hb; exact hk.1 ha
      · exact h3 a ha b hb e
    · simp only [Bool.true_eq_false,if_false,if_true,List.nil_append,List.cons_append,List.map_cons]
      exact List.nodup_cons.2 ⟨by simp only [List.mem_append,not_or]; exact hk,ih'⟩
theorem filt_no {l:List (Int×Int)} {t:Int} (h:t ∉ l.map (·.1)):(l.filter fun p=>p.1 != t) = l:=by
  rw [List.filter_eq_self]
  intro p hp
  simp only [bne_iff_ne,ne_eq]
  intro e
  exact h (by rw [← e]; exact List.mem_map_of_mem hp)
theorem wo_mem {t:Int} {ws:List Wt} {w:Wt} (h:w ∈ wo t ws):w ∈ ws:=(List.mem_filter.1 h).1
theorem wo_subl (t:Int) (ws:List Wt):(wo t ws).Sublist ws:=List.filter_sublist

section
variable {R:RS} {P:ChP}
theorem One.keys (h:One R P) (t:Int):t ∈ az (entC P.S P.V)↔t ∈ R.ws.map (·.1):=by
  rw [n9 h.one,← h.s,← h.v]
  simp [az,entC,wEnt]
theorem One.chk (h:One R P) {t:Int} (ht:0≤t∧t < 64):chk P t = match aj t R.ws with | some _=>11 | none=>0:=by
  unfold Go.Fx.chk
  rw [if_neg (by omega)]
  cases hl:aj t R.ws with
  | none=>rw [if_neg (by rw [h.keys]; exact iF t hl)]
  | some l=>rw [if_pos (by rw [h.keys]; exact List.mem_map_of_mem (lO t hl))]
theorem One.at (h:One R P):atR R 0 = (P.cap,P.buf,P.closed):=by
  unfold atR
  rw [h.ch]
  rfl
theorem One.ix (h:One R P) {t:Int} (ht:t ∈ R.ws.map (·.1)):nQ R.ws t 0 = 0:=by
  unfold nQ
  cases hl:aj t R.ws with
  | none=>exact absurd ht (iF t hl)
  | some l =>
    obtain ⟨d,v,e⟩:=h.one _ (lO t hl)
    simp only at e
    subst e
    simp [ixI,List.findIdx?_cons]
/-- One waiting task leaves. -/
theorem One.wo (h:One R P) {d:Bool} {p:Int×Int} {l:List (Int×Int)} (hq:qD R.ws 0 d = p::l):qD (wo p.1 R.ws) 0 d = l∧qD (wo p.1 R.ws) 0 (!d) = qD R.ws 0 (!d)∧((wo p.1 R.ws).map (·.1)).Nodup∧SC (wo p.1 R.ws):=by
  have hn:=sc_nd h.one h.nd
  refine ⟨?_,?_,h.nd.sublist ((wo_subl _ _).map _),fun w hw=>h.one w (wo_mem hw)⟩
  · rw [fH,hq,List.filter_cons_of_neg (by simp)]
    refine filt_no ?_
    cases d <;> rw [hq,List.nodup_append] at hn <;> obtain ⟨h1,h2,h3⟩:=hn
    · exact (List.nodup_cons.1 h2).1
    · exact (List.nodup_cons.1 h1).1
  · rw [fH]
    refine filt_no fun hm=>?_
    cases d <;> rw [List.nodup_append,hq] at hn <;> obtain ⟨h1,h2,h3⟩:=hn
    · exact h3 p.1 hm p.1 (by simp) rfl
    · exact h3 p.1 (by simp) p.1 hm rfl

end
def i4 (x:It):It4:=(x.1,0,x.2.1,x.2.2)
theorem its_i4 (l:List It):bp l = it4s (l.map i4):=by
  unfold bp it4s
  cases l with
  | nil=>rfl
  | cons x l =>
    simp only [List.map_cons,reduceCtorEq,if_false,List.map_map]
    rfl
/-- What the law makes of the selector's answer. -/
def fixX (x:RR):RR:=if x.2.1 = true∧x.1.2.2.2≠0 then ((0,x.1.2.1,x.1.2.2.1,0),false,x.2.2.1,x.1.2.2.2) else ((0,x.1.2.1,x.1.2.2.1,x.1.2.2.2),x.2.1,x.2.2.1,x.2.2.2)

theorem rdy1 (R:RS) (x:Cs):aX R 0 [x] = if rdyR R x = true then [0] else []:=by
  simp [aX]

section
variable {R:RS} {P:ChP}
theorem one_send (h:One R P) {t v p:Int} (ht:0≤t∧t < 64) (hp:0≤p) :
    fixX (bI R t [(0,true,v)] p true).2 = ((0,0,0,0),(dm P t v).2.1,(dm P t v).2.2.1.map i4,(dm P t v).2.2.2)∧One (bI R t [(0,true,v)] p true).1 (dm P t v).1:=by
  have hc:=h.chk ht
  have hat:=h.at
  have hv:cc R.ch.length [((0:Int),true,v)] = true:=by rw [h.ch]; simp [cc,vR]
  unfold bI dm
  rw [if_neg (by rw [hv]; simp; omega)]
  cases hl:aj t R.ws with
  | some l =>
    rw [hl] at hc
    simp only at hc
    rw [hc]
    simp [fixX,h]
  | none =>
    rw [hl] at hc
    simp only at hc
    rw [hc]
    simp only [rdy1,ne_eq,not_true_eq_false,if_false]
    unfold rdyR
    simp only [hat,if_true]
    have hm:∀ x,x % 1 = 0:=fun x:Nat=>Nat.mod_one x
    have z0:((0:Int) = 16) = False:=by simp
    have z1:((13:Int) = 16) = False:=by simp
    have z2:((14:Int) = 16) = False:=by simp
    by_cases hcl:P.closed = true
    · simp only [hcl,Bool.true_or,if_true,reduceCtorEq,if_false,List.length_singleton,hm,List.getD_cons_zero,Int.toNat_zero,ba,hat,z0,z1,z2,aA]
      simp [fixX,h]
    · simp only [Bool.not_eq_true] at hcl
      cases hV:P.V with
      | cons x l =>
        have hq:qD R.ws 0 false = x.2::l.map (·.2):=by rw [← h.v,hV]; rfl
        obtain ⟨w1,w2,w3,w4⟩:=h.wo hq
        simp only [Bool.not_false,Bool.not_true] at w2
        simp only [hcl,hq,ne_eq,reduceCtorEq,not_false_eq_true,decide_true,Bool.false_or,Bool.true_or,if_true,if_false,List.length_singleton,hm,List.getD_cons_zero,Int.toNat_zero,ba,hat,z0,z1,z2,aA,hV,Bool.false_eq_true]
        have hi:=h.ix (t:=x.2.1) (nY (p:=x.2) (d:=false) (i:=0) (by rw [hq]; simp))
        refine ⟨by simp [fixX,cn,hi,i4],⟨h.ch.trans (by simp [hcl]),by rw [w2]; exact h.s,w1.symm,w3,w4⟩⟩
      | nil =>
        have hq:qD R.ws 0 false = []:=by rw [← h.v,hV]; rfl
        by_cases hb:P.buf.length < P.cap
        · simp only [hcl,hq,hb,ne_eq,not_true_eq_false,reduceCtorEq,decide_true,decide_false,Bool.false_or,Bool.or_true,Bool.true_or,if_true,if_false,List.length_singleton,hm,List.getD_cons_zero,Int.toNat_zero,ba,hat,z0,z1,z2,aA,hV,Bool.false_eq_true]
          refine ⟨by simp [fixX],⟨by rw [h.ch]; simp [hcl],h.s,by rw [hq]; rfl,h.nd,h.one⟩⟩
        · simp only [hcl,hq,hb,ne_eq,not_true_eq_false,decide_false,Bool.false_or,Bool.or_false,if_true,if_false,aA,hV,Bool.false_eq_true,reduceCtorEq]
          refine ⟨by simp [fixX],⟨by rw [h.ch]; simp [hcl],?_,?_,?_,?_⟩⟩
          · have:qD (R.ws++[(t,[((0:Int),true,v)])]) 0 true = qD R.ws 0 true++[(t,v)]:=by simp [qD,qW,onC]
            rw [this,← h.s]; simp
          · have:qD (R.ws++[(t,[((0:Int),true,v)])]) 0 false = qD R.ws 0 false:=by simp [qD,qW,onC]
            rw [this,hq]; rfl
          · rw [List.map_append,List.nodup_append]
            exact ⟨h.nd,by simp,fun a ha b hb e=>by simp at hb; rw [e,hb] at ha; exact iF t hl ha⟩
          · intro w hw
            rcases List.mem_append.1 hw with hw | hw
            · exact h.one w hw
            · simp at hw; subst hw; exact ⟨_,_,rfl⟩

theorem one_receive (h:One R P) {t v p:Int} (ht:0≤t∧t < 64) (hp:0≤p) :
    fixX (bI R t [(0,false,v)] p true).2 = ((0,0,(aT P t).2.1,0),(aT P t).2.2.1,(aT P t).2.2.2.1.map i4,(aT P t).2.2.2.2)∧One (bI R t [(0,false,v)] p true).1 (aT P t).1:=by
  have hc:=h.chk ht
  have hat:=h.at
  have hv:cc R.ch.length [((0:Int),false,v)] = true:=by rw [h.ch]; simp [cc,vR]
  unfold bI aT
  rw [if_neg (by rw [hv]; simp; omega)]
  cases hl:aj t R.ws with
  | some l =>
    rw [hl] at hc
    simp only at hc
    rw [hc]
    simp [fixX,h]
  | none =>
    rw [hl] at hc
    simp only at hc
    rw [hc]
    simp only [rdy1,ne_eq,not_true_eq_false,if_false]
    unfold rdyR
    simp only [hat,if_true,Bool.false_eq_true,if_false]
    have hm:∀ x,x % 1 = 0:=fun x:Nat=>Nat.mod_one x
    have z0:((0:Int) = 16) = False:=by simp
    have z1:((13:Int) = 16) = False:=by simp
    have z2:((14:Int) = 16) = False:=by simp
    cases hS:P.S with
    | cons x l =>
      have hq:qD R.ws 0 true = x.2::l.map (·.2):=by rw [← h.s,hS]; rfl
      obtain ⟨w1,w2,w3,w4⟩:=h.wo hq
      simp only [Bool.not_false,Bool.not_true] at w2
      simp only [hq,ne_eq,reduceCtorEq,not_false_eq_true,decide_true,Bool.or_true,Bool.true_or,if_true,if_false,List.length_singleton,hm,List.getD_cons_zero,Int.toNat_zero,ba,hat,z0,z1,z2,ag,hS,Bool.false_eq_true]
      have hi:=h.ix (t:=x.2.1) (nY (p:=x.2) (d:=true) (i:=0) (by rw [hq]; simp))
      refine ⟨by simp [fixX,cn,hi,i4],⟨by rw [h.ch]; simp,w1.symm,by rw [w2]; exact h.v,w3,w4⟩⟩
    | nil =>
      have hq:qD R.ws 0 true = []:=by rw [← h.s,hS]; rfl
      cases hb:P.buf with
      | cons x b =>
        simp only [hq,hb,ne_eq,not_true_eq_false,reduceCtorEq,decide_true,decide_false,Bool.false_or,Bool.or_true,if_true,if_false,List.length_cons,List.length_nil,Nat.zero_add,Nat.zero_lt_succ,hm,List.getD_cons_zero,Int.toNat_zero,ba,hat,z0,z1,z2,ag,hS,Bool.false_eq_true]
        refine ⟨by simp [fixX],⟨by rw [h.ch]; simp,by rw [hq]; simp [hS],h.v,h.nd,h.one⟩⟩
      | nil =>
        by_cases hcl:P.closed = true
        · simp only [hcl,hq,hb,ne_eq,not_true_eq_false,reduceCtorEq,decide_true,decide_false,Bool.true_or,if_true,if_false,List.length_singleton,hm,List.getD_cons_zero,Int.toNat_zero,ba,hat,z0,z1,z2,ag,hS,Bool.false_eq_true]
          simp [fixX,h]
        · simp only [Bool.not_eq_true] at hcl
          simp only [hcl,hq,hb,ne_eq,not_true_eq_false,decide_false,Bool.false_or,Bool.or_false,if_true,if_false,ag,hS,Bool.false_eq_true,reduceCtorEq,List.length_nil,Nat.lt_irrefl]
          refine ⟨by simp [fixX],⟨by rw [h.ch]; simp [hcl,hb],?_,?_,?_,?_⟩⟩
          · have:qD (R.ws++[(t,[((0:Int),false,v)])]) 0 true = qD R.ws 0 true:=by simp [qD,qW,onC]
            rw [this,hq]; simp [hS]
          · have:qD (R.ws++[(t,[((0:Int),false,v)])]) 0 false = qD R.ws 0 false++[(t,0)]:=by simp [qD,qW,onC]
            rw [this,← h.v]; simp
          · rw [List.map_append,List.nodup_append]
            exact ⟨h.nd,by simp,fun a ha b hb e=>by simp at hb; rw [e,hb] at ha; exact iF t hl ha⟩
          · intro w hw
            rcases List.mem_append.1 hw with hw | hw
            · exact h.one w hw
            · simp at hw; subst hw; exact ⟨_,_,rfl⟩

theorem lP (t:Int):∀ l:List W3,(l.filter fun x=>x.2.1 != t).map (·.2) = (l.map (·.2)).filter fun p=>p.1 != t
  | []=>rfl
  | x :: l => by
    rw [List.map_cons,List.filter_cons,List.filter_cons,← lP t l]
    split <;> rfl
theorem one_cancel (h:One R P) {t:Int} (ht:0≤t∧t < 64):(de R t).2 = (cI P t).2∧One (de R t).1 (cI P t).1:=by
  have hc:=h.chk ht
  unfold de cI
  rw [if_neg (by omega)]
  cases hl:aj t R.ws with
  | none =>
    rw [hl] at hc
    simp only at hc
    rw [hc]
    exact ⟨rfl,h⟩
  | some l =>
    rw [hl] at hc
    simp only at hc
    rw [hc]
    refine ⟨rfl,⟨h.ch,?_,?_,h.nd.sublist ((wo_subl _ _).map _),fun w hw=>h.one w (wo_mem hw)⟩⟩
    · rw [fH,← h.s]; exact lP t _
    · rw [fH,← h.v]; exact lP t _

theorem wos_mem {w:Wt}:∀ {ts:List Int} {ws:List Wt},w ∈ wos ts ws→w ∈ ws∧w.1 ∉ ts
  | [],ws,h=>⟨h,by simp⟩
  | t :: ts, ws, h => by
    rw [lE] at h
    obtain ⟨h1,h2⟩:=wos_mem h
    have h3:=List.mem_filter.1 h1
    refine ⟨h3.1,?_⟩
    simp only [List.mem_cons,not_or]
    exact ⟨by simpa using h3.2,h2⟩
theorem one_close (h:One R P):(ck R 0).2.1 = (bU P).2.1.map i4∧(ck R 0).2.2 = (bU P).2.2∧One (ck R 0).1 (bU P).1:=by
  have hat:=h.at
  unfold ck bU
  rw [if_neg (by rw [h.ch]; simp),hat]
  simp only
  by_cases hcl:P.closed = true
  · rw [if_pos hcl,if_pos hcl]
    exact ⟨rfl,rfl,h⟩
  · rw [if_neg hcl,if_neg hcl]
    have hc:clsI R.ws 0 = P.V.map (fun x=>(x.2.1,0,13))++P.S.map (fun x=>(x.2.1,0,14)):=by
      unfold clsI
      rw [← h.s,← h.v,List.map_map,List.map_map]
      rfl
    have hk:∀ x ∈ clsI R.ws 0,x.1 ∈ R.ws.map (·.1):=fun x hx=>by
      unfold clsI at hx
      rcases List.mem_append.1 hx with hx | hx <;> obtain ⟨p,hp,rfl⟩:=List.mem_map.1 hx <;> exact nY hp
    have he:wos ((clsI R.ws 0).map (·.1)) R.ws = []:=by
      rw [List.eq_nil_iff_forall_not_mem]
      intro w hw
      obtain ⟨h1,h2⟩:=wos_mem hw
      refine h2 ?_
      have:=(n9 h.one w.1).1 (List.mem_map_of_mem h1)
      unfold clsI
      rw [List.map_append,List.map_map,List.map_map,List.mem_append]
      exact this.symm
    refine ⟨?_,rfl,⟨by rw [h.ch]; rfl,by rw [he]; rfl,by rw [he]; rfl,by rw [he]; exact List.nodup_nil,by rw [he]; intro w hw; cases hw⟩⟩
    rw [← hc]
    refine List.map_congr_left fun x hx=>?_
    unfold cn i4
    rw [h.ix (hk x hx)]
end
end Go.Fx.YtbomoaajkinfpaaFx

