/- What the functions that the statement reaches compute: part 45. -/
import Derived.Test.YtbomoaajkinfpaaFxW44
namespace Go.Fx.YtbomoaajkinfpaaFx
open Go Go.Fx
attribute [local irreducible] aC runI aw aB

set_option maxRecDepth 100000
set_option maxHeartbeats 8000000

theorem rdyRX_nd {R:RS}:∀ {l:List Cs} {k:Nat},(aE R k l).Nodup
  | [],_=>List.nodup_nil
  | x :: l, k => by
    simp only [aE]
    have ih:=rdyRX_nd (R:=R) (l:=l) (k:=k + 1)
    split
    · simp only [List.cons_append,List.nil_append]
      refine List.nodup_cons.2 ⟨fun e=>?_,ih⟩
      have:=(gW e).1
      omega
    · simpa using ih
theorem nO {R:RS}:∀ {l:List Cs} {k:Nat},(aE R k l).length≤l.length
  | [],_=>Nat.le_refl _
  | x :: l, k => by
    simp only [aE,List.length_append,List.length_cons]
    have ih:=nO (R:=R) (l:=l) (k:=k + 1)
    split
    · simp only [List.length_singleton]; omega
    · simp only [List.length_nil]; omega
theorem pick_mod {k n:Nat} (hk:k < n) {a:Int} (ha:0≤a):((k:Int) + a * (n:Nat)).toNat % n = k:=by
  obtain ⟨b,rfl⟩:∃ b:Nat,a = (b:Int):=⟨a.toNat,by omega⟩
  have:((k:Int) + (b:Int) * (n:Nat)).toNat = k + b * n:=by
    rw [← Int.natCast_mul,← Int.natCast_add,Int.toNat_natCast]
  rw [this,Nat.add_mul_mod_self_right,Nat.mod_eq_of_lt hk]
theorem select_free {R:RS} {f:Int} {cs:List Cs} (hf:0≤f∧f < 64) (hl:ag f R.ws = none) (hv:a9 R.ch.length cs = true) {k:Nat} (hk:k < (aE R 0 cs).length) {a:Int} (ha:0≤a) (hp:0≤(k:Int) + a * ((aE R 0 cs).length:Nat)) :
    (bG R f cs ((k:Int) + a * ((aE R 0 cs).length:Nat)) true).2.1.1 = f∧(bG R f cs ((k:Int) + a * ((aE R 0 cs).length:Nat)) true).2.1.2.1 = (aE R 0 cs)[k]∧(bG R f cs ((k:Int) + a * ((aE R 0 cs).length:Nat)) true).2.2.1 = true∧(bG R f cs ((k:Int) + a * ((aE R 0 cs).length:Nat)) true).2.2.2.2 = 0:=by
  have hm:=pick_mod hk ha
  have hne:aE R 0 cs≠[]:=fun e=>by rw [e] at hk; cases hk
  unfold bG
  rw [if_neg (by rw [hv]; simp; omega),hl]
  simp only
  rw [if_neg hne,hm]
  refine ⟨rfl,?_,rfl,rfl⟩
  simp only
  rw [List.getD_eq_getElem?_getD,List.getElem?_eq_getElem hk]
  rfl

section
variable {st:St} {s mid n wm:Nat} {cv ov:AV} {L:List CL} {R:RS} {M:List (Int×List Cs)} {cs:List Cs} {at':Int} {K:Exit→Sf→St→Prop}
/-- The loop that looks for a task that does not wait. -/
theorem hold6 (h:SelR st s mid cv ov L R n) (hm:MapIs st wm .i64 csSl M) (hl:∀ t,ag t M = ag t R.ws) (hw:R.ws.length≤63)
    (hK:∀ f,0≤f∧f < 64→ag f R.ws = none→K (.exit 6) ⟨[(2,.sl false 3 (cs.map csAV)),(3,.lit (.int .i64 at')),(11,.ptr s 0),(24,.lit (.int .i64 f))],[]⟩ st) :
    aC Go.Proofs.Try.prog id false f6_106 ⟨[(2,.sl false 3 (cs.map csAV)),(3,.lit (.int .i64 at')),(11,.ptr s 0),(13,.map wm),(24,.lit (.int .i64 0)),(25,.lit (.int .i64 0))],[]⟩ st K:=by
  rw [f6_106w]
  refine bj (A:=Nat×Int) (fun a=>64 - a.1) (fun a=>⟨[(2,.sl false 3 (cs.map csAV)),(3,.lit (.int .i64 at')),(11,.ptr s 0),(13,.map wm),(24,.lit (.int .i64 a.2)),(25,.lit (.int .i64 (a.1:Nat)))],[]⟩) (fun _=>st)
    (fun a=>a.1≤64∧(0≤a.2∧a.2 < 64)∧(ag a.2 R.ws = none∨∀ j:Nat,j < a.1→ag (j:Int) R.ws≠none)) (0,0) ⟨by omega,by omega,.inr fun j hj=>by simp only at hj; omega⟩ (Sf.le_refl _) rfl ?_
  rintro ⟨k,f⟩ ⟨h1,h2,h3⟩ K2 hK2 hKe hKr
  simp only at h1 h2 h3
  try dsimp only
  by_cases hk:k < 64
  · cases hlk:ag ((k:Nat):Int) R.ws with
    | none =>
      have hlu:∀ z,aZ (.int .i64) z true st (.map wm) (.lit (.int .i64 (k:Nat))) = .ok (.tup [z,.lit (.bool false)]):=fun z=>by
        rw [aW hm,hl,hlk]; rfl
      simp (config:=KF) (disch:=omega) only [bZ,bU,unA,↓reduceIte,Nat.reduceEqDiff,aM,hlu]
      exact hK2 (k + 1,k) _ ⟨by simp only; omega,by simp only; omega,.inl hlk⟩ (by simp only; omega) (Sf.le_refl _)
    | some l =>
      obtain ⟨c1,c2,c3,c4,c5,c6,c7⟩:=cg l
      have hlu:∀ z,aZ (.int .i64) z true st (.map wm) (.lit (.int .i64 (k:Nat))) = .ok (.tup [csSl l,.lit (.bool true)]):=fun z=>by
        rw [aW hm,hl,hlk]; simp [c1]
      simp (config:=KF) (disch:=omega) only [bZ,bU,unA,↓reduceIte,Nat.reduceEqDiff,aM,hlu,c1,c3]
      refine hK2 (k + 1,f) _ ⟨by simp only; omega,h2,h3.imp _root_.id fun q j hj=>?_⟩ (by simp only; omega) (Sf.le_refl _)
      by_cases e:j = k
      · subst e; rw [hlk]; simp
      · exact q j (by simp only at hj; omega)
  · simp (config:=KF) (disch:=omega) only [bZ,aH,bf,↓reduceIte,Nat.reduceEqDiff,aY]
    refine hKe _ _ _ (hK f h2 ?_)
    rcases h3 with q | q
    · exact q
    · exfalso
      have:=o2 (A:=(List.range 64).map fun j:Nat=>(j:Int)) (B:=R.ws.map (·.1)) (by decide) fun x hx=>by
        obtain ⟨j,hj,rfl⟩:=List.mem_map.1 hx
        have:=q j (by have:=List.mem_range.1 hj; omega)
        cases hlk:ag (j:Int) R.ws with
        | none=>exact absurd hlk this
        | some b=>exact me hlk
      simp only [List.length_map,List.length_range] at this
      omega

/-- The picks, each on a copy. -/
theorem hold8 {f:Int} (h:SelR st s mid cv ov L R n) (hn:n < 1900) (hf:0≤f∧f < 64) (hlf:ag f R.ws = none) (hv:a9 R.ch.length cs = true) (hat:0≤at'∧at' < (cs.length:Int))
    (hK:∀ st' (c:Int),c≤1→K (.exit 8) ⟨[(29,.lit (.int .i64 0)),(30,.lit (.int .i64 c))],[]⟩ st') :
    aC Go.Proofs.Try.prog id false f6_128 ⟨[(2,.sl false 3 (cs.map csAV)),(3,.lit (.int .i64 at')),(11,.ptr s 0),(24,.lit (.int .i64 f)),(28,intS (aE R 0 cs)),(29,.lit (.int .i64 0)),(30,.lit (.int .i64 0)),(31,.lit (.int .i64 0))],[]⟩ st K:=by
  have hll:=nO (R:=R) (l:=cs) (k:=0)
  have hnd:=rdyRX_nd (R:=R) (l:=cs) (k:=0)
  have hcl:cs.length≤16:=by
    have:=(cq hv).1
    have:=h.len
    have e:R.ch.length = L.length:=by rw [← h.ob,gU]
    omega
  have hsf:=fun {k:Nat} hk hp=>select_free (k:=k) hf hlf hv hk hat.1 hp
  have hmul:0≤at' * ((aE R 0 cs).length:Nat)∧at' * ((aE R 0 cs).length:Nat)≤256:=by
    refine ⟨Int.mul_nonneg hat.1 (by omega),?_⟩
    have h1:at' * ((aE R 0 cs).length:Nat)≤16 * ((aE R 0 cs).length:Nat):=Int.mul_le_mul_of_nonneg_right (by omega) (by omega)
    omega
  rw [f6_128w]
  generalize aE R 0 cs = rl at *
  refine bj (A:=Nat×Int×St) (fun a=>rl.length - a.1) (fun a=>⟨[(2,.sl false 3 (cs.map csAV)),(3,.lit (.int .i64 at')),(11,.ptr s 0),(24,.lit (.int .i64 f)),(28,intS rl),(29,.lit (.int .i64 0)),(30,.lit (.int .i64 a.2.1)),(31,.lit (.int .i64 (a.1:Nat)))],[]⟩) (fun a=>a.2.2)
    (fun a=>a.1≤rl.length∧SelR a.2.2 s mid cv ov L R n∧(a.2.1 = 0∨a.2.1 = 1∧∃ j:Nat,∃ hj:j < rl.length,j < a.1∧rl[j] = at')) (0,0,st) ⟨Nat.zero_le _,h,.inl rfl⟩ (Sf.le_refl _) rfl ?_
  rintro ⟨k,c,s0⟩ ⟨h1,h2,h3⟩ K2 hK2 hKe hKr
  simp only at h1 h2 h3
  try dsimp only
  obtain ⟨i1,i2,i3,i4',i5,i6,i7,i8⟩:=c9 rl
  by_cases hk:k < rl.length
  · have hi0:intS rl = .sl false 1 (ints rl):=if_neg fun e=>by rw [e] at hk; cases hk
    have hgd:(ints rl).getD k .any = .lit (.int .i64 rl[k]):=by simp [ints,hk]
    have hgl:(ints rl).length = rl.length:=al rl
    have hlts:=h2.is.lts
    have hrs:=hsf hk (by omega)
    have hnx:=fun (c':Int) s' (sf:Sf) a1 a2=>hK2 (k + 1,c',s') sf ⟨by simp only; omega,a1,a2⟩ (by simp only; omega)
    simp only at hnx
    rw [hi0] at hnx ⊢
    simp (config:=KF) (disch:=omega) only [bZ,lenI,id,↓reduceIte,Nat.reduceEqDiff,aM,hgl]
    refine au rfl e_f29 (scopy_calls h2 (by omega)) rfl fun r s1 hr=>?_
    obtain ⟨t,rfl,k1,mt,ct,ot,Lt,ht,htd⟩:=hr
    have hse:=io ht (by omega) (v:=.sl false 3 (cs.map csAV)) (l:=cs) (t:=f) (pick:=(k:Int) + at' * (rl.length:Nat)) (wait:=true) (.inl (.inl (by unfold csSl; rw [if_neg (cq hv).2.2.2]))) (fun x hx=>by cases hx) (fun x hx=>by cases hx) (by omega) (by omega)
    obtain ⟨g1,g2,g3,g4⟩:=hrs
    generalize bG R f cs ((k:Int) + at' * (rl.length:Nat)) true = Y at *
    obtain ⟨R2,⟨y0,y1,y2,y3⟩,dn,E,er⟩:=Y
    simp only at g1 g2 g3 g4
    subst g1; subst g3; subst g4
    simp only [cu] at hse
    obtain ⟨z1,z2,z3,z4,z5,z6,z7⟩:=bE E
    simp (config:=KF) (disch:=omega) only [bZ,cT,cb,bz,lenI,n_mul,id,↓reduceIte,Nat.reduceEqDiff,hgl]
    refine au rfl e_f30 hse rfl fun r s2 hr=>?_
    obtain ⟨rfl,cv2,ov2,L2,w1,w2,w3⟩:=hr
    have h4:SelR s2 s mid cv ov L R n:=(h2.kp k1 fun _ _ e=>by cases e).kp w2 fun x hx e=>by
      have:=htd x e
      have:=hlts x hx
      omega
    by_cases he:y1 = at'
    · have hc:c = 0:=by
        rcases h3 with q | ⟨q,j,hj,hjk,hja⟩
        · exact q
        · exfalso
          have:=(List.getElem_inj (i:=j) (j:=k) (h₀:=hj) (h₁:=hk) hnd).1 (by rw [hja,← g2,he])
          omega
      subst hc
      subst g2
      simp (config:=KF) (disch:=omega) only [bZ,gw,hh_pick,oH,hh_un,dk,gR,AI.dst,ixSV,am,addA,aa,unA,dH,bN,dI,↓reduceIte,Nat.reduceEqDiff,Nat.reduceAdd,Nat.reduceLeDiff,not_true_eq_false,aM,Int.zero_add,hgd,hgl,z1,z3,z7]
      exact hnx 1 _ _ h4 (.inr ⟨rfl,k,hk,by omega,he⟩) (Sf.le_refl _)
    · have h3':c = 0∨c = 1∧∃ j:Nat,∃ hj:j < rl.length,j < k + 1∧rl[j] = at':=h3.imp _root_.id fun ⟨q,j,hj,hjk,hja⟩=>⟨q,j,hj,by omega,hja⟩
      subst g2
      simp (config:=KF) (disch:=omega) only [bZ,gw,hh_pick,oH,hh_un,dk,gR,AI.dst,ixSV,am,addA,aa,unA,dH,bN,dI,↓reduceIte,Nat.reduceEqDiff,Nat.reduceAdd,Nat.reduceLeDiff,not_true_eq_false,aY,hgd,hgl,z1,z3,z7]
      exact hnx c _ _ h4 h3' (Sf.le_refl _)
  · simp (config:=KF) (disch:=omega) only [bZ,aH,bf,↓reduceIte,Nat.reduceEqDiff,aY,i1,i8]
    exact hKe _ _ _ (hK _ _ (by omega))
end
end Go.Fx.YtbomoaajkinfpaaFx

