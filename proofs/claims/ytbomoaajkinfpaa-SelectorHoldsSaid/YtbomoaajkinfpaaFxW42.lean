/- What the functions that the statement reaches compute: part 42. -/
import Derived.Test.YtbomoaajkinfpaaFxW41
namespace Go.Fx.YtbomoaajkinfpaaFx
open Go Go.Fx
attribute [local irreducible] aC runI aw aB

set_option maxRecDepth 100000
set_option maxHeartbeats 4000000

/-! Waits are valid; the loop that asks whether a waiting task is ready. -/
def VL (R:RS):Prop:=∀ w ∈ R.ws,a9 R.ch.length w.2 = true
theorem nM (R:RS) (x:Cs):(ba R x).1.ch.length = R.ch.length:=by
  unfold ba
  split
  · split
    · rfl
    · split
      · rfl
      · simp only [List.length_modify]
  · split
    · simp only [List.length_modify]
    · split
      · rfl
      · simp only [List.length_modify]
theorem rAct_vl {R:RS} (h:VL R) (a:A7):VL (rAct R a).1:=by
  unfold rAct
  split
  · unfold bG
    split
    · exact h
    · rename_i hn
      split
      · exact h
      · split
        · split
          · exact h
          · intro w hw
            rcases List.mem_append.1 hw with hw | hw
            · exact h w hw
            · simp only [List.mem_singleton] at hw
              subst hw
              cases hv:a9 R.ch.length a.2.2.2.1 with
              | true=>rfl
              | false=>exact absurd (.inr (.inr (.inl hv))) hn
        · intro w hw
          simp only at hw ⊢
          rw [nM]
          exact h w ((mz _ _).subset hw)
  · split
    · unfold dL
      split
      · exact h
      · split
        · exact h
        · exact fun w hw=>h w ((f0 _ _).subset hw)
    · unfold cB
      split
      · exact h
      · split
        · exact h
        · intro w hw
          simp only [List.length_modify] at hw ⊢
          exact h w ((ej _ _).subset hw)
theorem nN {R:RS}:∀ {l:List Cs} {k:Nat},(∀ x ∈ l,rdyR R x = false)→aE R k l = []
  | [],_,_=>rfl
  | x :: l, k, h => by
    simp only [aE]
    rw [h x (List.mem_cons_self ..),nN fun y hy=>h y (List.mem_cons_of_mem _ hy)]
    rfl

section
variable {st:St} {s mid n wm:Nat} {cv ov rv:AV} {L:List CL} {R:RS} {M:List (Int×List Cs)} {acts:List A7} {cs:List Cs} {at' i:Int} {K:Exit→Sf→St→Prop}
theorem hold5 {v20:AV} {z9:List AV} (h:SelR st s mid cv ov L R n) (hm:MapIs st wm .i64 csSl M) (hl:∀ t,ag t M = ag t R.ws) (hnr:NR R) (hvl:VL R) (hv:oIV v20 (R.ws.map (·.1)))
    (hK:K (.exit 4) ⟨[(1,cr acts),(2,.sl false 3 (cs.map csAV)),(3,.lit (.int .i64 at')),(9,.lptr 9 0),(11,.ptr s 0),(13,.map wm),(14,.lit (.int .i64 i))],[(9,z9)]⟩ st) :
    aC Go.Proofs.Try.prog id false f6_78 ⟨[(1,cr acts),(2,.sl false 3 (cs.map csAV)),(3,.lit (.int .i64 at')),(9,.lptr 9 0),(11,.ptr s 0),(13,.map wm),(14,.lit (.int .i64 i)),(20,v20),(21,.lit (.int .i64 0))],[(9,z9)]⟩ st K:=by
  have hfew:=h.few
  unfold cr at hK ⊢
  rw [f6_78w]
  refine bj (A:=Nat) (fun a=>R.ws.length - a) (fun a=>⟨[(1,.sl false 5 (a7s acts)),(2,.sl false 3 (cs.map csAV)),(3,.lit (.int .i64 at')),(9,.lptr 9 0),(11,.ptr s 0),(13,.map wm),(14,.lit (.int .i64 i)),(20,v20),(21,.lit (.int .i64 (a:Nat)))],[(9,z9)]⟩) (fun _=>st)
    (fun a=>a≤R.ws.length) 0 (Nat.zero_le _) (Sf.le_refl _) rfl ?_
  rintro k h1 K2 hK2 hKe hKr
  try dsimp only
  by_cases hk:k < R.ws.length
  · rcases hv with rfl | ⟨rfl,e⟩
    · have hgd:(ints (R.ws.map (·.1))).getD k .any = .lit (.int .i64 R.ws[k].1):=by simp [ints,hk]
      have hlen:(ints (R.ws.map (·.1))).length = R.ws.length:=by simp [ints]
      have hmem:=List.getElem_mem hk
      have hlk:=ea h.wok.nd hmem
      obtain ⟨c1,c2,c3,c4,c5,c6,c7⟩:=cg R.ws[k].2
      have hlu:∀ z,aZ (.int .i64) z false st (.map wm) (.lit (.int .i64 R.ws[k].1)) = .ok (csSl R.ws[k].2):=fun z=>by
        rw [aW hm,hl,hlk]; simp [c1]
      have hrd:=gD h (v:=csSl R.ws[k].2) (l:=R.ws[k].2) (.inl (.inl rfl)) (h.wok.len _ hmem)
      rw [if_pos (hvl _ hmem),if_pos (hvl _ hmem),nN fun x hx=>(hnr _ hmem x hx).2] at hrd
      simp (config:=KF) (disch:=omega) only [bZ,bU,ixSV,lenI,aa,id,↓reduceIte,Nat.reduceEqDiff,aM,hgd,hlen,hlu]
      refine ao (vs:=[.ptr s 0,csSl R.ws[k].2]) (by simp [c1]; rfl) e_f27 hrd (by simp [c5]; rfl) ?_
      simp (config:=KF) (disch:=omega) only [bZ,AI.dst,lenI,↓reduceIte,Nat.reduceEqDiff,not_true_eq_false,intS]
      exact hK2 (k + 1) _ (by omega) (by omega) (Sf.le_refl _)
    · rw [List.map_eq_nil_iff] at e
      rw [e] at hk
      cases hk
  · have hlen:(ints (R.ws.map (·.1))).length = R.ws.length:=by simp [ints]
    rcases hv with rfl | ⟨rfl,e⟩
    · simp (config:=KF) (disch:=omega) only [bZ,aH,bf,lenI,↓reduceIte,Nat.reduceEqDiff,aY,hlen]
      exact hKe _ _ _ hK
    · simp (config:=KF) (disch:=omega) only [bZ,aH,bf,lenI,↓reduceIte,Nat.reduceEqDiff,aY]
      exact hKe _ _ _ hK
end
end Go.Fx.YtbomoaajkinfpaaFx

