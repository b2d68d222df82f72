/- An evaluator for resolved code, proved against the model: part 5. -/
import Derived.Test.YtenijlfcfmhmkaaFxD
/- Regions that draw their order: evaluation. -/
namespace Go.Fx
open Go

section
variable (P : Program) (F : Nat → FuncId) (m : Bool) (locs0 : List (Nat × List AV)) (st : St) (C : PK → Sf → Prop) (sf : Sf) (d : Option Nat) (x y i : Opd) (K : List PK → Sf → Prop) (ks : List PK)
theorem h_nil : headI P F locs0 st [] K ks sf = K ks sf := rfl
theorem h_none (i : AI) (r : List GI) : headI P F locs0 st (⟨none, i⟩ :: r) K ks sf = headOne P F locs0 st i (consH (headI P F locs0 st r K) ks) sf := rfl
theorem h_some (t : Nat) (want : Bool) (i : AI) (r : List GI) : headI P F locs0 st (⟨some (t, want), i⟩ :: r) K ks sf = guardH t want (sf.reg t) (headOne P F locs0 st i (consH (headI P F locs0 st r K) ks)) (skipH (headI P F locs0 st r K) ks i.dst) sf := rfl
theorem hh_mv : headOne P F locs0 st (.mv d x) C sf = valH C d sf (sf.ev F x).dis := rfl
theorem hh_pick (c a b : Opd) : headOne P F locs0 st (.pick d c a b) C sf = (pickV (sf.ev F c) (sf.ev F a) (sf.ev F b)).wp (valH C d sf) := rfl
theorem hh_bin (k : BinK) (op : BinOp) : headOne P F locs0 st (.bin d k op x y) C sf = (binI k op (sf.ev F x) (sf.ev F y)).wp (valH C d sf) := rfl
theorem hh_un (op : UnOp) : headOne P F locs0 st (.un d op x) C sf = (unA op (sf.ev F x)).wp (valH C d sf) := rfl
theorem hh_conv (k : ConvK) : headOne P F locs0 st (.conv d k x) C sf = (convI st k (sf.ev F x)).wp (valH C d sf) := rfl
theorem hh_ext (j : Nat) : headOne P F locs0 st (.ext d x j) C sf = (extV (sf.ev F x) j).wp (valH C d sf) := rfl
theorem hh_field (off : Nat) (k : Option Nat) : headOne P F locs0 st (.field d x off k) C sf = (fieldV (sf.ev F x) off k).wp (valH C d sf) := rfl
theorem hh_addr (off : Nat) : headOne P F locs0 st (.addr d x off) C sf = (addA (sf.ev F x) off).wp (valH C d sf) := rfl
theorem hh_ixS (k : Nat) : headOne P F locs0 st (.ixS d x i k) C sf = (ixSV (sf.ev F x) (sf.ev F i) k).wp (valH C d sf) := rfl
theorem hh_ixA (n k : Nat) : headOne P F locs0 st (.ixA d x i n k) C sf = ((Fx.ixA (sf.ev F i) n).bind fun j => addA (sf.ev F x) (j * k)).wp (valH C d sf) := rfl
theorem hh_ixStr : headOne P F locs0 st (.ixStr d x i) C sf = (ixStrV (sf.ev F x) (sf.ev F i)).wp (valH C d sf) := rfl
theorem hh_ixArr (n k : Nat) (t : Option Nat) : headOne P F locs0 st (.ixArr d x i n k t) C sf = (ixArrV (sf.ev F x) (sf.ev F i) n k t).wp (valH C d sf) := rfl
theorem hh_load (k : Option Nat) : headOne P F locs0 st (.load d x k) C sf = (loadV sf st (sf.ev F x) k).wp (valH C d sf) := rfl
theorem hh_nilck : headOne P F locs0 st (.nilck d x) C sf = (nilckV (sf.ev F x)).wp (valH C d sf) := rfl
theorem hh_sliS (lo hi : Option Opd) (k : Nat) : headOne P F locs0 st (.sliS d x lo hi k) C sf = (sliSV (sf.ev F x) (lo.map (sf.ev F)) (hi.map (sf.ev F)) k).wp (valH C d sf) := rfl
theorem hh_sliStr (lo hi : Option Opd) : headOne P F locs0 st (.sliStr d x lo hi) C sf = (sliStrV (sf.ev F x) (lo.map (sf.ev F)) (hi.map (sf.ev F))).wp (valH C d sf) := rfl
theorem hh_sli3 (lo hi : Option Opd) (mx : Opd) (k : Nat) : headOne P F locs0 st (.sli3 d x lo hi mx k) C sf = (sli3V (sf.ev F x) (lo.map (sf.ev F)) (hi.map (sf.ev F)) (sf.ev F mx) k).wp (valH C d sf) := rfl
theorem hh_mkif (t : Nat) : headOne P F locs0 st (.mkif d t x) C sf = (mkifV (sf.ev F x) t).wp (valH C d sf) := rfl
theorem hh_tas (t : Nat) : headOne P F locs0 st (.tas d t x) C sf = (tasV (sf.ev F x) t).wp (valH C d sf) := rfl
theorem hh_bsl (k len : Nat) (z : AV) (parts : List (Nat × Opd)) : headOne P F locs0 st (.bsl d k len z parts) C sf = (bslV k len z (parts.map fun p => (p.1, sf.ev F p.2))).wp (valH C d sf) := rfl
theorem hh_bst (places : List (Nat × Nat)) (z : AV) (parts : List (Nat × Opd)) : headOne P F locs0 st (.bst d places z parts) C sf = (bstV places z (parts.map fun p => (p.1, sf.ev F p.2))).wp (valH C d sf) := rfl
theorem hh_bar (k : Nat) (z : AV) (parts : List (Nat × Opd)) : headOne P F locs0 st (.bar d k z parts) C sf = (barV k z (parts.map fun p => (p.1, sf.ev F p.2))).wp (valH C d sf) := rfl
theorem hh_lookup (k : KeyK) (z : AV) (ok : Bool) (mp key : Opd) : headOne P F locs0 st (.lookup d k z ok mp key) C sf = (lookupI k z ok st (sf.ev F mp) (sf.ev F key)).wp (valH C d sf) := rfl
theorem hh_mkfn (g : Nat) (first cap : List Opd) : headOne P F locs0 st (.mkfn d g first cap) C sf = (mkfnV (F g) (first.map (sf.ev F)) (cap.map (sf.ev F))).wp (valH C d sf) := rfl
theorem hh_len (k : LenK) : headOne P F locs0 st (.len d k x) C sf = (lenI k st (sf.ev F x)).wp (valH C d sf) := rfl
theorem hh_mn (lt : Bool) : headOne P F locs0 st (.mn d lt x y) C sf = (minmaxA lt (sf.ev F x) (sf.ev F y)).wp (valH C d sf) := rfl
theorem hh_app (k bytes : Nat) : headOne P F locs0 st (.app d k bytes x y) C sf = (appNewI st k bytes (sf.ev F x) (sf.ev F y)).wp (valH C d sf) := rfl
theorem hh_call (p : Bool) (f : Opd) (args : List Opd) : headOne P F locs0 st (.call d p f args) C sf = headCall P st d (sf.ev F f) (args.map (sf.ev F)) C sf := rfl
theorem hh_newL (s : Nat) (cs : List AV) : headOne P F locs0 st (.newL s cs) C sf = C (.new s cs) (sf.set s .any) := rfl
theorem hh_store (k : Nat) : headOne P F locs0 st (.store k x y) C sf = headAddr locs0 (sf.ev F x) (sf.ev F y) k C sf := rfl
theorem hh_appS (d s k bytes : Nat) : headOne P F locs0 st (.appS d s k bytes y) C sf = headApp st d s k bytes (sf.ev F y) C sf (sf.reg s) := rfl
theorem headAddr_eq (s : Nat) (v : AV) (k : Nat) : headAddr locs0 (.lptr s 0) v k C sf = headStore v k s C sf (look s locs0) := rfl
theorem headStore_eq (s : Nat) (v : AV) (k : Nat) (cs : List AV) : headStore v k s C sf (some cs) = (cs.length = k ∧ v.dis.solid = true ∧ v.dis.cells.length = k ∧ C (.store s v.dis.cells) sf) := rfl
theorem guardH_tup (t : Nat) (want : Bool) (cs : List AV) (Y N : Sf → Prop) : guardH t want (.tup cs) Y N sf = N sf := rfl
theorem guardH_tt (t : Nat) (want : Bool) (Y N : Sf → Prop) : guardH t want (.lit (.bool true)) Y N sf = if true = want then Y (sf.set t (.lit (.bool true))) else N (sf.set t (.lit (.bool true))) := by
  unfold guardH
  exact propext ⟨fun h => h true rfl, fun h c e => by subst e; exact h⟩
theorem guardH_ff (t : Nat) (want : Bool) (Y N : Sf → Prop) : guardH t want (.lit (.bool false)) Y N sf = if false = want then Y (sf.set t (.lit (.bool false))) else N (sf.set t (.lit (.bool false))) := by
  unfold guardH
  exact propext ⟨fun h => h false rfl, fun h c e => by subst e; exact h⟩
end

theorem guardH_split {p : Prop} [Decidable p] {t : Nat} {want : Bool} {Y N : Sf → Prop} {sf : Sf} (h1 : p → guardH t want (.lit (.bool true)) Y N sf) (h2 : ¬ p → guardH t want (.lit (.bool false)) Y N sf) : guardH t want (.lit (.bool (decide p))) Y N sf := by
  by_cases h : p
  · rw [decide_eq_true h]; exact h1 h
  · rw [decide_eq_false h]; exact h2 h

/-! What a tail looks at. -/
def PK.keep : PK → Bool
  | .val _ => false
  | .skip => false
  | _ => true

theorem stores_keep : ∀ ks : List PK, storesOf (ks.filter PK.keep) = storesOf ks
  | [] => rfl
  | .val _ :: r => stores_keep r
  | .skip :: r => stores_keep r
  | .new _ _ :: r => stores_keep r
  | .app _ _ :: r => stores_keep r
  | .store s _ :: r => congrArg (s :: ·) (stores_keep r)
theorem news_keep : ∀ ks : List PK, newsOf (ks.filter PK.keep) = newsOf ks
  | [] => rfl
  | .val _ :: r => news_keep r
  | .skip :: r => news_keep r
  | .store _ _ :: r => news_keep r
  | .app _ _ :: r => news_keep r
  | .new s _ :: r => congrArg (s :: ·) (news_keep r)
theorem apps_keep : ∀ ks : List PK, appsOf (ks.filter PK.keep) = appsOf ks
  | [] => rfl
  | .val _ :: r => apps_keep r
  | .skip :: r => apps_keep r
  | .store _ _ :: r => apps_keep r
  | .new _ _ :: r => apps_keep r
  | .app s _ :: r => congrArg (s :: ·) (apps_keep r)
theorem finS_keep : ∀ (ks : List PK) (sf : Sf), finSS (ks.filter PK.keep) sf = finSS ks sf
  | [], _ => rfl
  | .val _ :: r, sf => finS_keep r sf
  | .skip :: r, sf => finS_keep r sf
  | .new _ _ :: r, sf => finS_keep r sf
  | .app _ _ :: r, sf => finS_keep r sf
  | .store _ _ :: r, _ => finS_keep r _
theorem finN_keep : ∀ (ks : List PK) (sf : Sf), finNN (ks.filter PK.keep) sf = finNN ks sf
  | [], _ => rfl
  | .val _ :: r, sf => finN_keep r sf
  | .skip :: r, sf => finN_keep r sf
  | .store _ _ :: r, sf => finN_keep r sf
  | .app _ _ :: r, sf => finN_keep r sf
  | .new _ _ :: r, _ => finN_keep r _

section
variable {P : Program} {F : Nat → FuncId} {m : Bool} {locs0 : List (Nat × List AV)} {st st2 : St} {drop lv ll : List Nat} {tl : List GI} {Q : Exit → Sf → St → Prop}

theorem tail_keep (ks : List PK) (sf : Sf) : tailK P F m drop lv ll tl Q st (ks.filter PK.keep) sf = tailK P F m drop lv ll tl Q st ks sf := by
  unfold tailK ksB
  rw [stores_keep, news_keep, apps_keep, finS_keep, finN_keep]

theorem head_keep : ∀ (r : List GI) (ks : List PK) (sf : Sf), headI P F locs0 st r (tailK P F m drop lv ll tl Q st) (ks.filter PK.keep) sf = headI P F locs0 st r (tailK P F m drop lv ll tl Q st) ks sf
  | [], ks, sf => tail_keep ks sf
  | ⟨g, i⟩ :: r, ks, sf => by
    have h1 : consH (headI P F locs0 st r (tailK P F m drop lv ll tl Q st)) (ks.filter PK.keep) = consH (headI P F locs0 st r (tailK P F m drop lv ll tl Q st)) ks := by
      funext k sf
      simp only [consH]
      rw [← head_keep r (ks ++ [k]) sf, ← head_keep r (ks.filter PK.keep ++ [k]) sf]
      simp
    have h2 : ∀ d, skipH (headI P F locs0 st r (tailK P F m drop lv ll tl Q st)) (ks.filter PK.keep) d = skipH (headI P F locs0 st r (tailK P F m drop lv ll tl Q st)) ks d := by
      intro d
      funext sf
      exact congrFun (congrFun h1 .skip) (sf.put d (.tup []))
    cases g with
    | none => simp only [headI, h1]
    | some g => obtain ⟨t, w⟩ := g; simp only [headI, h1, h2]

variable (ks : List PK) (sf : Sf) (r : List GI) (v : AV) (d : Option Nat)
theorem cons_val : consH (headI P F locs0 st r (tailK P F m drop lv ll tl Q st)) ks (.val v) sf = headI P F locs0 st r (tailK P F m drop lv ll tl Q st) ks sf := by
  show headI P F locs0 st r _ (ks ++ [.val v]) sf = _
  exact (head_keep r (ks ++ [PK.val v]) sf).symm.trans ((congrArg (fun q => headI P F locs0 st r (tailK P F m drop lv ll tl Q st) q sf) (by simp [PK.keep])).trans (head_keep r ks sf))
theorem cons_skip : skipH (headI P F locs0 st r (tailK P F m drop lv ll tl Q st)) ks d sf = headI P F locs0 st r (tailK P F m drop lv ll tl Q st) ks (sf.put d (.tup [])) := by
  show headI P F locs0 st r _ (ks ++ [.skip]) (sf.put d (.tup [])) = _
  exact (head_keep r (ks ++ [PK.skip]) _).symm.trans ((congrArg (fun q => headI P F locs0 st r (tailK P F m drop lv ll tl Q st) q (sf.put d (.tup []))) (by simp [PK.keep])).trans (head_keep r ks _))
theorem val_head : valH (consH (headI P F locs0 st r (tailK P F m drop lv ll tl Q st)) ks) d sf v = headI P F locs0 st r (tailK P F m drop lv ll tl Q st) ks (sf.put d v) := cons_val ks (sf.put d v) r v
theorem tail_nil : tailK P F m drop lv ll tl Q st [] sf = runI P F m tl (opsK lv ll Q) sf st := propext ⟨fun h => h.2, fun h => ⟨rfl, h⟩⟩
theorem tail_eq (k : PK) : tailK P F m drop lv ll tl Q st (k :: ks) sf = (ksB drop (k :: ks) = true ∧ runI P F m tl (opsK lv ll Q) (finNN (k :: ks) (finSS (k :: ks) sf)) st) := rfl
end

section
variable (H : List PK → Sf → Prop) (ks : List PK) (sf : Sf) (s : Nat) (cs : List AV) (v : AV)
theorem cons_new : consH H ks (.new s cs) sf = H (ks ++ [.new s cs]) sf := rfl
theorem cons_store : consH H ks (.store s cs) sf = H (ks ++ [.store s cs]) sf := rfl
theorem cons_app : consH H ks (.app s v) sf = H (ks ++ [.app s v]) sf := rfl
end

theorem call_h {P : Program} {d : Option Nat} {q : FuncId} {fs cs args vs : List AV} {sf : Sf} {st : St} {C : PK → Sf → Prop} {v : AV} (hvs : fs ++ args.map AV.dis ++ cs = vs) (hent : enterB P q = true) (h : PCalls P q vs st v) (hn : args.all AV.noL = true) (hK : C (.val v) (sf.put d v)) : headCall P st d (.fn (.func q) fs cs) args C sf := by
  subst hvs
  exact ⟨hn, hent, v, h, hK⟩
end Go.Fx

/- Numbers of bytes: shifts and the like. -/
namespace Go.Fx
open Go

theorem n_shr8 {k' : IntKind} {n : Int} : binI .num .shr (.lit (.int .i64 n)) (.lit (.int k' 8)) = .req true (.ok (.lit (.int .i64 (n / 256)))) := by
  show ((shiftA .shr .i64 n 8).bind fun v => Res.ok (AV.lit v)) = _
  have : n.fdiv (2 ^ 8) = n / 256 := Int.fdiv_eq_ediv_of_nonneg n (by decide)
  rw [← this]; rfl
theorem n_shl8 {k' : IntKind} {n : Int} : binI .num .shl (.lit (.int .i64 n)) (.lit (.int k' 8)) = .req true (.ok (.lit (.int .i64 (IntKind.i64.wrap (n * 256))))) := rfl
theorem w_byte (x : UInt8) : IntKind.i64.wrap (x.toNat : Int) = x.toNat := IntWalk.i64_in _ (by have := x.toNat_lt; omega)
theorem w_byte8 (x : UInt8) : IntKind.i64.wrap ((x.toNat : Int) * 256) = x.toNat * 256 := IntWalk.i64_in _ (by have := x.toNat_lt; omega)
theorem or_nat (a b : Nat) (ha : a < 65536) (hb : b < 256) : (BitVec.ofInt 64 ((a : Int) * 256) ||| BitVec.ofInt 64 (b : Int)).toNat = a * 256 + b := by
  have e : (a : Int) * 256 = ((a * 256 : Nat) : Int) := by omega
  rw [e, BitVec.toNat_or, BitVec.ofInt_natCast, BitVec.ofInt_natCast, BitVec.toNat_ofNat, BitVec.toNat_ofNat, Nat.mod_eq_of_lt (by omega), Nat.mod_eq_of_lt (by omega)]
  have h := Nat.shiftLeft_add_eq_or_of_lt (i := 8) hb a
  rw [Nat.shiftLeft_eq] at h
  exact h.symm
theorem n_or8 (x y : UInt8) : binI .num .or (.lit (.int .i64 ((x.toNat : Int) * 256))) (.lit (.int .i64 (y.toNat : Int))) = .ok (.lit (.int .i64 ((256 * x.toNat + y.toNat : Nat) : Int))) := by
  have h := or_nat x.toNat y.toNat (by have := x.toNat_lt; omega) y.toNat_lt
  have e : IntKind.i64.wrap ((BitVec.ofInt 64 ((x.toNat : Int) * 256) ||| BitVec.ofInt 64 (y.toNat : Int)).toNat : Int) = ((256 * x.toNat + y.toNat : Nat) : Int) := by
    rw [h, IntWalk.i64_in _ (by have := x.toNat_lt; have := y.toNat_lt; omega)]
    omega
  rw [← e]; rfl
theorem w_u8 (n : Nat) : AV.lit (.int .u8 (IntKind.u8.wrap n)) = .lit (.int .u8 (UInt8.ofNat n).toNat) := byte_of n
theorem w_u8' {n : Nat} (h : n < 256) : AV.lit (.int .u8 (n : Int)) = .lit (.int .u8 (UInt8.ofNat n).toNat) := by
  congr 2; simp [UInt8.toNat_ofNat']; omega

theorem n_xor8 (x : UInt8) (b : Int) : binI .num .xor (.lit (.int .u8 x.toNat)) (.lit (.int .u8 b)) = .ok (.lit (.int .u8 (UInt8.ofNat (BitVec.ofInt 8 (x.toNat : Int) ^^^ BitVec.ofInt 8 b).toNat).toNat)) := by
  rw [← w_u8]; rfl
theorem BB_set (l : List UInt8) (j : Nat) (q : UInt8) : (BB l).set j (.lit (.int .u8 q.toNat)) = BB (l.set j q) := by simp [BB, ofByte, List.map_set]

theorem len_sl (st : St) (o : Bool) (k : Nat) (es : List AV) : lenI .sl st (.sl o k es) = .ok (.lit (.int .i64 es.length)) := rfl
theorem len_nil (st : St) : lenI .sl st (.lit (.slice none 0 0)) = .ok (.lit (.int .i64 0)) := rfl
theorem len_bs (st : St) (q k o n c : Nat) : lenI .sl st (.bs q k o n c) = .ok (.lit (.int .i64 n)) := rfl
theorem BB_snoc (l : List UInt8) (x : UInt8) : BB l ++ [AV.lit (.int .u8 x.toNat)] = BB (l ++ [x]) := by simp [BB, ofByte]

/-- A number in two bytes. -/
def twoB (n : Nat) : List UInt8 := [UInt8.ofNat (n / 256), UInt8.ofNat n]
theorem twoB_len (n : Nat) : (twoB n).length = 2 := rfl
theorem twoB_inj {a b : Nat} (ha : a < 65536) (hb : b < 65536) : twoB a = twoB b ↔ a = b := by
  refine ⟨fun h => ?_, fun h => by rw [h]⟩
  simp only [twoB, List.cons.injEq, and_true] at h
  have h1 := congrArg UInt8.toNat h.1
  have h2 := congrArg UInt8.toNat h.2
  simp only [UInt8.toNat_ofNat'] at h1 h2
  omega
theorem twoB_of (x y : UInt8) : twoB (256 * x.toNat + y.toNat) = [x, y] := by
  have := x.toNat_lt
  have := y.toNat_lt
  simp only [twoB, List.cons.injEq, and_true]
  constructor <;> apply UInt8.toNat.inj <;> simp only [UInt8.toNat_ofNat'] <;> omega
theorem leLo_nil (l : List (Nat × List AV)) : leLo l [] := by cases l <;> trivial
/-- A loop whose rounds see nothing of what is behind it. -/
theorem loop_op {P : Program} {F : Nat → FuncId} {m : Bool} {b : AC} {lv ll : List Nat} {Q : Exit → Sf → St → Prop} {A : Type} (μ : A → Nat) (S : A → Sf) (T : A → St) (I : A → Prop) (a0 : A) {sf : Sf} {st : St} (h0 : I a0) (hs : Sf.le (sf.mask lv ll) (S a0)) (ht : st = T a0)
    (step : ∀ a, I a → ∀ K : Exit → Sf → St → Prop, (∀ a' sf', I a' → μ a' < μ a → Sf.le (sf'.mask lv ll) (S a') → K .normal sf' (T a')) → (∀ id sf st, Q (.exit id) sf st → K (.exit id) sf st) → (∀ sf st, Q .ret sf st → K .ret sf st) → aC P F m b (S a) (T a) K) : loopI (aC P F m b) lv ll sf st Q :=
  loop_for μ S T I a0 h0 hs ht fun a ha => step a ha _ (fun a' _ h1 h2 h3 => ⟨a', ⟨h1, h2⟩, h3, rfl⟩) (fun _ _ _ h => h) (fun _ _ h => h)
theorem guardH_yes {p : Prop} [Decidable p] (h : p) {t : Nat} {want : Bool} {Y N : Sf → Prop} {sf : Sf} : guardH t want (.lit (.bool (decide p))) Y N sf = if true = want then Y (sf.set t (.lit (.bool true))) else N (sf.set t (.lit (.bool true))) := by
  rw [decide_eq_true h, guardH_tt]
theorem guardH_no {p : Prop} [Decidable p] (h : ¬ p) {t : Nat} {want : Bool} {Y N : Sf → Prop} {sf : Sf} : guardH t want (.lit (.bool (decide p))) Y N sf = if false = want then Y (sf.set t (.lit (.bool false))) else N (sf.set t (.lit (.bool false))) := by
  rw [decide_eq_false h, guardH_ff]
/-- A contract whose result evaluation does not look into. -/
theorem acalls_op {P : Program} {X : Cx} {f : FuncId} {fn : AFun} {vs : List AV} {st : St} (hmix : P.follows .mixedOrders = true) (hf : compF P X f = some fn) (hX : X.F = id) (hlen : Nat.ble vs.length fn.n = true) {K : AV → St → Prop} (h : ∀ Q : AV → St → Prop, (∀ v st', K v st' → Q v st') → aFun P id false fn vs st Q) : ACalls P f vs st K :=
  acalls_id hmix hf hX hlen (h K fun _ _ h => h)
end Go.Fx

/- Slices of plain cells that are written to and appended to. -/
namespace Go.Fx
open Go

def MB (v : AV) (st : St) (l : List AV) : Prop := (v = .lit (.slice none 0 0) ∧ l = []) ∨ ∃ id cap r, v = .bs id 1 0 l.length cap ∧ st.get id = some (l ++ r) ∧ l.length ≤ cap ∧ cap ≤ (l ++ r).length
/-- What lies elsewhere is as it was. -/
def Kept (st st' : St) (v : AV) : Prop := st.boxes.length ≤ st'.boxes.length ∧ ∀ id cs, st.get id = some cs → (∀ k o l c, v ≠ .bs id k o l c) → st'.get id = some cs
theorem Kept.refl (st : St) (v : AV) : Kept st st v := ⟨Nat.le_refl _, fun _ _ h _ => h⟩

theorem MB.facts {v : AV} {st : St} {l : List AV} (h : MB v st l) : v.dis = v ∧ v.own1 = v ∧ v.own2 = v ∧ v.solid1 = true ∧ v.noL = true ∧ v.cells = [v] ∧ (∀ s, kill s v = v) ∧ ∀ st', lenI .sl st' v = .ok (.lit (.int .i64 l.length)) := by
  rcases h with ⟨rfl, rfl⟩ | ⟨id, cap, r, rfl, _⟩
  · exact ⟨rfl, rfl, rfl, rfl, rfl, rfl, fun _ => rfl, fun _ => rfl⟩
  · exact ⟨rfl, rfl, rfl, rfl, rfl, rfl, fun _ => rfl, fun _ => rfl⟩

/-- No box holds what points to boxes. -/
def NBs (st : St) : Prop := ∀ id cs, st.get id = some cs → ∀ c ∈ cs, c.NB
theorem NBs.nil : NBs ⟨[]⟩ := fun id cs h => by simp [St.get] at h
theorem NBs.push {st : St} {cs : List AV} (h : NBs st) (hc : ∀ c ∈ cs, c.NB) : NBs (st.push (.cells cs)) := by
  intro id ds hg
  by_cases e : id < st.boxes.length
  · rw [get_push_old e] at hg
    exact h id ds hg
  · by_cases e2 : id = st.boxes.length
    · subst e2
      rw [get_push] at hg
      cases hg
      exact hc
    · have := get_lt hg
      rw [len_push] at this
      omega
theorem NBs.set {st : St} {id : Nat} {cs : List AV} (h : NBs st) (hid : id < st.boxes.length) (hc : ∀ c ∈ cs, c.NB) : NBs (st.set id cs) := by
  intro id' ds hg
  by_cases e : id = id'
  · subst e
    rw [get_set hid] at hg
    cases hg
    exact hc
  · rw [get_set_ne e] at hg
    exact h id' ds hg

theorem MB.app {v : AV} {st : St} {l new : List AV} {bytes : Nat} {C : AV → St → Prop} (h : MB v st l) (hl : Lits l) (hn : Lits new) (hr : roomB (l.length + new.length) bytes = true)
    (hC : ∀ v' st', MB v' st' (l ++ new) → Kept st st' v → (NBs st → NBs st') → C v' st') : appX false 1 bytes v C st new := by
  rcases h with ⟨rfl, rfl⟩ | ⟨id, cap, r, rfl, hg, h1, h2⟩
  · refine ⟨rfl, by simpa using hr, ?_⟩
    split
    · rename_i h
      have : new = [] := by simpa using h
      subst this
      exact hC _ _ (.inl ⟨rfl, rfl⟩) (Kept.refl _ _) id
    · intro c hc
      refine hC _ _ (.inr ⟨st.boxes.length, c, List.replicate (c - new.length) .any, by simp, ?_, by simpa using hc, by simp; omega⟩) ⟨by simp [St.push], fun id cs hg _ => by rw [get_push_old (get_lt hg)]; exact hg⟩ (fun h => h.push fun x hx => ?_)
      · rw [hn.cellsD]
        simp only [List.nil_append, Nat.mul_one]
        exact get_push st _
      · rw [hn.cellsD] at hx
        simp only [List.nil_append, Nat.mul_one, List.mem_append] at hx
        rcases hx with hx | hx
        · exact hn.nb x hx
        · rw [List.eq_of_mem_replicate hx]; exact .any
  · refine ⟨rfl, rfl, hr, ?_⟩
    rw [hg]
    show (Res.ok _).wp _
    rw [wp_ok, hn.cellsD]
    have hid := get_lt hg
    split
    · rename_i hc
      refine ⟨by omega, hC _ _ (.inr ⟨id, cap, r.drop new.length, by simp, ?_, by simpa using hc, ?_⟩) ⟨by simp [St.set], fun id' cs hg' hne => ?_⟩ (fun h => h.set hid ?_)⟩
      · rw [get_set hid, Nat.zero_add, Nat.mul_one, setAt_at rfl (by simp at h2; omega)]
        simp
      · simp at h2 ⊢; omega
      · rw [get_set_ne (fun e => hne _ _ _ _ (by rw [e])), hg']
      · rw [Nat.zero_add, Nat.mul_one, setAt_at rfl (by simp at h2; omega)]
        have h3 := h id _ hg
        intro x hx
        simp only [List.mem_append] at hx
        rcases hx with hx | hx | hx
        · exact hl.nb x hx
        · exact hn.nb x hx
        · exact h3 x (List.mem_append_right _ (List.mem_of_mem_drop hx))
    · rename_i hc
      have e : List.map AV.own1 (List.take (l.length * 1) (List.drop 0 (l ++ r))) = l := by simp [hl.own]
      refine ⟨by simp, fun c hc => hC _ _ (.inr ⟨st.boxes.length, c, List.replicate (c - (l.length + new.length)) .any, by simp, ?_, by simpa using hc, by simp; omega⟩) ⟨by simp [St.push], fun id' cs hg' _ => by rw [get_push_old (get_lt hg')]; exact hg'⟩ (fun h => h.push fun x hx => ?_)⟩
      · rw [e]
        simp only [Nat.mul_one]
        exact get_push st _
      · rw [e] at hx
        simp only [List.mem_append] at hx
        rcases hx with (hx | hx) | hx
        · exact hl.nb x hx
        · exact hn.nb x hx
        · rw [List.eq_of_mem_replicate hx]; exact .any

theorem MB.src {v : AV} {st : St} {l : List AV} (h : MB v st l) : ∃ r, srcA st 1 v = r ∧ ∀ K : List AV → Prop, K l → r.wp K := by
  refine ⟨_, rfl, fun K hK => ?_⟩
  rcases h with ⟨rfl, rfl⟩ | ⟨id, cap, r, rfl, hg, h1, h2⟩
  · exact hK
  · show (bsElems st id 1 0 l.length).wp K
    unfold bsElems
    rw [hg]
    show _ ∧ _
    refine ⟨by simp, ?_⟩
    rw [List.drop_zero, grp_one (by simp), List.take_left]
    exact hK

theorem MB.appNew {v : AV} {st : St} {l : List AV} {bytes : Nat} (h : MB v st l) (hl : Lits l) (hr : roomB l.length bytes = true) {K : AV → Prop} (hK : ∀ u, (u = .sl true 1 l ∨ (u = .lit (.slice none 0 0) ∧ l = [])) → K u) : (appNewI st 1 bytes (.lit (.slice none 0 0)) v).wp K := by
  have key : (srcA st 1 v).wp fun new => new = l := by
    obtain ⟨r, e, hr⟩ := h.src
    rw [e]; exact hr _ rfl
  show ((srcA st 1 v).bind _).wp K
  rw [Res.wp_bind]
  refine Res.wp_mono key fun new e => ?_
  subst e
  show Res.wp (if new.isEmpty then _ else _) K
  split
  · rename_i he
    exact hK _ (.inr ⟨rfl, by simpa using he⟩)
  · exact ⟨hr, hK _ (.inl (by rw [hl.dis]))⟩

/-- Frozen at a return. -/
theorem MB.frz {v : AV} {st : St} {l : List AV} (h : MB v st l) (hl : Lits l) (hr : NBs st) : Frz st v (.sl false 1 l) := by
  rcases h with ⟨rfl, rfl⟩ | ⟨id, cap, r, rfl, hg, h1, h2⟩
  · exact .le _ _ (.nil _ _) (.sl _ _ _ (by simp))
  · have h3 : grp 1 l.length ((l ++ r).drop 0) = l := by rw [List.drop_zero, grp_one (by simp), List.take_left]
    have := Frz.bs (st := st) id 1 0 l.length cap (l ++ r) hg (by simp) h1 (fun c hc => hr id _ hg c (by simpa using hc))
    rw [h3] at this
    exact this
end Go.Fx

/- Functions that keep nothing may be handed what lies in boxes. -/
namespace Go.Fx
open Go

/-- Values that share nothing with what was there. -/
def litB1 : AV → Bool
  | .lit _ => true
  | _ => false
def AV.freshB : AV → Bool
  | .lit _ => true
  | .sl true _ es => es.all litB1
  | .tup vs => vs.all litB1
  | _ => false

theorem lit_any {g g' : Gh} {x : AV} {u : Value} (h : litB1 x = true) (hr : R g x u) : R g' x u := by
  cases x <;> simp [litB1] at h
  cases hr with
  | lit _ h => exact .lit _ h

theorem fresh_R {g g' : Gh} {w : World} {N : Nat} {L : Nat → Loc} {v : AV} {u : Value} (hf : v.freshB = true) (hr : R g v u) (ho : OwnV g w N L v u) (hi : ∀ b, N ≤ b → g'.imm b = g.imm b) : R g' v u := by
  cases v with
  | lit x => exact lit_any (x := .lit x) rfl hr
  | tup vs =>
    cases hr with
    | tup _ us hu h =>
      refine .tup vs us hu fun i x u hx hu => ?_
      have : litB1 x = true := List.all_eq_true.1 hf x (List.mem_of_getElem? hx)
      exact lit_any this (h i x u hx hu)
  | sl o k es =>
    cases o with
    | false => simp [AV.freshB] at hf
    | true =>
      have hes : ∀ x ∈ es, litB1 x = true := List.all_eq_true.1 hf
      have hcell : ∀ (i : Nat) (x : AV), (es.flatMap AV.cells)[i]? = some x → litB1 x = true := by
        intro i x hx
        have := List.mem_of_getElem? hx
        simp only [List.mem_flatMap] at this
        obtain ⟨e, he, hxe⟩ := this
        have h1 := hes e he
        cases e <;> simp [litB1] at h1
        simp [AV.cells] at hxe
        subst hxe; rfl
      cases hr with
      | slE _ _ a c => exact .slE _ _ a c
      | slN _ _ => exact .slN _ _
      | sl _ _ _ us b o c hc hk h1 h2 h3 =>
        have hO := (ho 0 (.sl true k es) (.slice (some ⟨b, o, none⟩) es.length c) rfl rfl).1 k es rfl
        refine .sl true k es us b o c hc hk (fun i x hx => ?_) (fun i x hx => lit_any (hcell i x hx) (h2 i x hx)) h3
        rcases hO with ⟨e, _⟩ | ⟨b', o', c', cur, T, q1, q2, _⟩
        · subst e; simp at hx
        · cases q1
          rw [hi b q2]; exact h1 i x hx
  | _ => simp [AV.freshB] at hf

/-- The boxes are frozen, for as long as a call takes. -/
def Gh.still (g : Gh) (w : World) : Gh := { base := g.base, lb := g.lb, bx := fun _ => none
                                            imm := fun b o => match frzB g w 0 b with | some us => us[o]? | none => g.imm b o
                                            cls := fun b => match g.cls b with | some (.box _) => none | c => c }
/-- And behind it they are boxes again. -/
def Gh.back (g g2 : Gh) (n : Nat) : Gh := { base := g.base, lb := g.lb, bx := g.bx
                                            imm := fun b => if b < n then g.imm b else g2.imm b
                                            cls := fun b => if b < n then g.cls b else g2.cls b }

theorem frzB_facts {g : Gh} {w : World} {b : Nat} {us : Array Value} (h : frzB g w 0 b = some us) : (∃ id, g.cls b = some (.box id)) ∧ ∃ T, w.heap[b]? = some (.cells us T (0, 0)) := by
  unfold frzB at h
  split at h
  · split at h
    · rename_i id us' T h1 h2
      cases h
      exact ⟨⟨id, h1⟩, T, h2⟩
    · cases h
  · cases h

theorem PCalls.view {P : Program} {f : FuncId} {vs vs' : List AV} {v0 : AV} (h : PCalls P f vs ⟨[]⟩ v0) (hf : v0.freshB = true) {st : St} (hv : frzL st vs' vs) : PCalls P f vs' st v0 := by
  intro g w us L hg hbx ha
  obtain ⟨hvl, hvv⟩ := frzL_facts hv
  have k2 : ∀ b o u, g.imm b o = some u → (g.still w).imm b o = some u := by
    intro b o u hi
    simp only [Gh.still]
    split
    · rename_i us e
      obtain ⟨⟨id, hid⟩, _⟩ := frzB_facts e
      rcases hg.immc b o u hi with h1 | ⟨L', h1⟩ <;> rw [hid] at h1 <;> cases h1
    · exact hi
  have kf : ∀ b us, frzB g w 0 b = some us → ∀ o : Nat, (g.still w).imm b o = us[o]? := fun b us e o => by simp only [Gh.still, e]
  have hgs : Good (g.still w) w := by
    refine ⟨fun b o u hi => ?_, fun b o u hi => ?_, fun b c hc => ?_, hg.base⟩
    · simp only [Gh.still] at hi
      split at hi
      · rename_i us e
        obtain ⟨_, T, hT⟩ := frzB_facts e
        rw [cell_of_row w b o us T (0, 0) hT]; exact hi
      · exact hg.imm b o u hi
    · simp only [Gh.still] at hi ⊢
      split at hi
      · rename_i us e
        obtain ⟨⟨id, hid⟩, _⟩ := frzB_facts e
        simp [hid]
      · rcases hg.immc b o u hi with h1 | ⟨L', h1⟩ <;> simp [h1]
    · simp only [Gh.still] at hc
      split at hc
      · cases hc
      · exact hg.cls b c hc
  have hbs : BoxR (g.still w) w ⟨[]⟩ := ⟨fun _ _ => rfl, fun id cs hc => by simp at hc, fun id es bs clk hc => by simp at hc⟩
  have has : ArgsR (g.still w) vs us := by
    refine ⟨by rw [ha.1, hvl], fun i x u hx hu => ?_⟩
    have hlt : i < vs'.length := by rw [← hvl]; exact (List.getElem?_eq_some_iff.1 hx).1
    exact frz_R (fzn_of hbx (fun _ _ _ _ => Nat.zero_le _) kf) k2 (hvv i vs'[i] x (by simp [hlt]) hx) (ha.2 i vs'[i] u (by simp [hlt]) hu)
  refine (h (g.still w) w us L hgs hbs has).mono fun e w' ⟨u, g2, he, hle, hR, hO⟩ => ?_
  refine ⟨u, g.back g2 w.heap.size, he, ⟨hle.below, fun b hb => by funext o; simp [Gh.back, hb], fun b hb => by simp [Gh.back, hb], rfl, rfl, rfl, fun _ => ?_⟩, ?_, ?_⟩
  · have hg2 := hle.good hgs
    refine ⟨fun b o u hi => ?_, fun b o u hi => ?_, fun b c hc => ?_, ?_⟩
    · simp only [Gh.back] at hi
      split at hi
      · rename_i hl
        have := hg.imm b o u hi
        unfold World.cell? at this ⊢
        rw [hle.below.block b hl]; exact this
      · exact hg2.imm b o u hi
    · simp only [Gh.back] at hi ⊢
      split at hi
      · rename_i hl; simp only [hl, if_true]; exact hg.immc b o u hi
      · rename_i hl; simp only [hl, if_false]; exact hg2.immc b o u hi
    · simp only [Gh.back] at hc
      split at hc
      · rename_i hl
        have := hg.cls b c hc
        exact ⟨this.1, Nat.lt_of_lt_of_le hl hle.below.size⟩
      · have := hg2.cls b c hc
        have hb := hle.base
        exact ⟨by simp only [Gh.back]; rw [hb] at this; exact this.1, this.2⟩
    · have := hg2.base
      have hb := hle.base
      rw [hb] at this
      exact this
  · exact fresh_R hf hR hO fun b hb => by simp [Gh.back, Nat.not_lt.2 hb]
  · intro i c x hc hx
    refine ⟨fun k es e => ?_, fun id s l e => ?_⟩
    · rcases (hO i c x hc hx).1 k es e with h0 | ⟨b, o, c', cur, T, q1, q0, q2, q3, q4, q5, q6⟩
      · exact .inl h0
      · have hnl : ¬ b < w.heap.size := by omega
        exact .inr ⟨b, o, c', cur, T, q1, q0, by simp [Gh.back, hnl, q2], q3, q4, q5, fun j hj hj' => by simp [Gh.back, hnl, q6 j hj hj']⟩
    · subst e
      cases v0 with
      | mit _ _ _ => simp [AV.freshB] at hf
      | agg _ => simp [AV.freshB] at hf
      | _ => cases i <;> simp [AV.cells] at hc

/-! A box may be frozen for good. -/
def St.one (id : Nat) (cs : List AV) : St := ⟨List.replicate id none ++ [some (.cells cs)]⟩
def St.kill (st : St) (id : Nat) : St := ⟨st.boxes.set id none⟩
theorem one_get {id : Nat} {cs : List AV} : (St.one id cs).get id = some cs := by simp [St.one, St.get]
theorem one_inv {id id' : Nat} {cs ds : List AV} (h : (St.one id cs).get id' = some ds) : id' = id ∧ ds = cs := by
  have hl := get_lt h
  simp only [St.one, List.length_append, List.length_replicate, List.length_cons, List.length_nil] at hl
  by_cases e : id' = id
  · subst e; rw [one_get] at h; cases h; exact ⟨rfl, rfl⟩
  · have : id' < id := by omega
    simp [St.one, St.get, List.getElem?_append_left, this] at h
theorem kill_box {st : St} {id id' : Nat} {b : Box} (h : (st.kill id).boxes[id']? = some (some b)) : id' ≠ id ∧ st.boxes[id']? = some (some b) := by
  simp only [St.kill] at h
  by_cases e : id' = id
  · subst e
    rw [List.getElem?_set] at h
    simp at h
  · rw [List.getElem?_set_ne (fun q => e q.symm)] at h
    exact ⟨e, h⟩
theorem kill_get {st : St} {id id' : Nat} (h : id ≠ id') : (st.kill id).get id' = st.get id' := by simp [St.kill, St.get, List.getElem?_set_ne h]

def Gh.froz (g : Gh) (b0 : Nat) (us : Array Value) : Gh := { base := g.base, lb := g.lb, bx := g.bx
                                                             imm := fun b o => if b = b0 then us[o]? else g.imm b o
                                                             cls := fun b => if b = b0 then none else g.cls b }

theorem ACalls.freeze {P : Program} {f : FuncId} {vs vs' : List AV} {st : St} {Q : AV → St → Prop} (id : Nat) {cs : List AV} (hid : st.get id = some cs) (h : ACalls P f vs (st.kill id) Q) (hv : frzL (St.one id cs) vs' vs) : ACalls P f vs' st Q := by
  intro D g w us L hg hbx ha
  obtain ⟨hvl, hvv⟩ := frzL_facts hv
  obtain ⟨b0, us0, T, a1, a2, a3, a4, a5, a6⟩ := hbx.2.1 id cs (by unfold St.get at hid; split at hid <;> first | (cases hid; assumption) | cases hid)
  have k2 : ∀ b o u, g.imm b o = some u → (g.froz b0 us0).imm b o = some u := by
    intro b o u hi
    simp only [Gh.froz]
    split
    · rename_i e
      subst e
      rcases hg.immc b o u hi with h1 | ⟨L', h1⟩ <;> rw [a2] at h1 <;> cases h1
    · exact hi
  have hle : GhLe g (g.froz b0 us0) := ⟨k2, fun _ _ h => h⟩
  have hgs : Good (g.froz b0 us0) w := by
    refine ⟨fun b o u hi => ?_, fun b o u hi => ?_, fun b c hc => ?_, hg.base⟩
    · simp only [Gh.froz] at hi
      split at hi
      · rename_i e
        subst e
        rw [cell_of_row w b o us0 T (0, 0) a3]; exact hi
      · exact hg.imm b o u hi
    · simp only [Gh.froz] at hi ⊢
      split at hi
      · rename_i e; simp [e]
      · rename_i e; simp only [e, if_false]; exact hg.immc b o u hi
    · simp only [Gh.froz] at hc
      split at hc
      · cases hc
      · exact hg.cls b c hc
  have hown : ∀ {N : Nat} {L : Loc} {a : AV} {u : Value}, Own g w N L a u → Own (g.froz b0 us0) w N L a u := by
    intro N L a u ho
    refine ⟨fun k es e => ?_, fun id s l e => ?_⟩
    · rcases ho.1 k es e with h0 | ⟨b, o, c', cur, T, q1, q0, q2, q3, q4, q5, q6⟩
      · exact .inl h0
      · have hne : b ≠ b0 := by rintro rfl; rw [a2] at q2; cases q2
        exact .inr ⟨b, o, c', cur, T, q1, q0, by simp [Gh.froz, hne, q2], q3, q4, q5, fun j hj hj' => by simp [Gh.froz, hne, q6 j hj hj']⟩
    · obtain ⟨b, mb, stp, q1, q2, q3, q4, q5, q6⟩ := ho.2 id s l e
      have hne : b ≠ b0 := by rintro rfl; rw [a2] at q3; cases q3
      exact ⟨b, mb, stp, q1, q2, by simp [Gh.froz, hne, q3], q4, q5, q6.mono hle.bx⟩
  have hbs : BoxR (g.froz b0 us0) w (st.kill id) := by
    refine ⟨fun id' hid' => hbx.1 id' (by simpa [St.kill] using hid'), fun id' cs' hc' => ?_, fun id' es bs clk hc' => ?_⟩
    · obtain ⟨hne, hc'⟩ := kill_box hc'
      obtain ⟨b, us', T', c1, c2, c3, c4, c5, c6⟩ := hbx.2.1 id' cs' hc'
      have hbne : b ≠ b0 := by rintro rfl; rw [a2] at c2; cases c2; exact hne rfl
      exact ⟨b, us', T', c1, by simp [Gh.froz, hbne, c2], c3, c4, fun i c x hc hx => ⟨(c5 i c x hc hx).1.mono hle, hown (c5 i c x hc hx).2⟩, c6⟩
    · obtain ⟨hne, hc'⟩ := kill_box hc'
      obtain ⟨b, us', c1, c2, c3, c4, c5⟩ := hbx.2.2 id' es bs clk hc'
      have hbne : b ≠ b0 := by rintro rfl; rw [a2] at c2; cases c2; exact hne rfl
      exact ⟨b, us', c1, by simp [Gh.froz, hbne, c2], c3, c4.mono hle, c5⟩
  have hfz : Fzn g (g.froz b0 us0) (St.one id cs) := by
    intro id' cs' hgt
    obtain ⟨rfl, rfl⟩ := one_inv hgt
    exact ⟨b0, us0, a1, fun o => by simp [Gh.froz], a4, fun i c x hc hx => (a5 i c x hc hx).1, a6⟩
  have has : ArgsR (g.froz b0 us0) vs us := by
    refine ⟨by rw [ha.1, hvl], fun i x u hx hu => ?_⟩
    have hlt : i < vs'.length := by rw [← hvl]; exact (List.getElem?_eq_some_iff.1 hx).1
    exact frz_R hfz k2 (hvv i vs'[i] x (by simp [hlt]) hx) (ha.2 i vs'[i] u (by simp [hlt]) hu)
  have hmv0 : Mv false 0 D g w (g.froz b0 us0) w := by
    refine ⟨rfl, rfl, rfl, Nat.le_refl _, rfl, fun _ _ => rfl, k2, fun _ _ h => h, fun _ _ => rfl, fun b c hc ho => ?_, (fun e => by cases e), hgs⟩
    have hbne : b ≠ b0 := by rintro rfl; rw [a2] at hc; cases hc; exact ho.elim
    exact ⟨by simp [Gh.froz, hbne, hc], rfl, by funext o; simp [Gh.froz, hbne]⟩
  refine (h D (g.froz b0 us0) w us L hgs hbs has).mono fun e w' ⟨u, v, st', g2, he, hQ, hmv, hb2, hR, hO⟩ => ?_
  exact ⟨u, v, st', g2, he, hQ, hmv0.trans hmv, hb2, hR, hO⟩
end Go.Fx

