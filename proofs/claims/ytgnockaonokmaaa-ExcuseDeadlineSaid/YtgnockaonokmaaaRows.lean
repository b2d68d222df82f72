/-
  No cell of these rows narrows 'for every input' (looked for: loops, veiled, ifaces, maps, wideKeys, modest, calm, conditions, laid).
  DERIVED. THE GIVEN ROWS OF THIS SEAT. 4 by the template 'for every input the law returns true; each argument reads behind the call as it read before'; 0 by the template 'total and deterministic' (their statements: YtgnockaonokmaaaTotals.lean).
  GIVEN WITH THE SEED: the statements are not yours to turn. If you find one false, say at which input.
  Laid BY PROGRAM, IN A SANDBOX (cutbox-rows.mjs): the forced cells as the released guide's own fill.sh prints them over the translation 9c1339163c18c892… (all of the seat's roots in one cut). By AI agents, Wed Nov 11 2026. No macro, syntax, notation, axiom, sorry.
-/
import Derived.Test.YtgnockaonokmaaaChecked
import GoSem.Claim
import GoSem.ClaimJoined
import GoSem.ClaimMapViews
import Derived.JoinedTies
import Derived.KernelRfl
namespace Go.Proofs.Ytgnockaonokmaaa
/- THE CELL 'sum', in the pinned program and in every row, IS THE sha256 OF THE DUMP (.gsa) THAT YtgnockaonokmaaaProg.lean LOADS. Nothing in Lean hashes anything: it is a label: what it is worth is what the hold of that sum in a sandbox is worth. -/
noncomputable def Try.pinned : Pinned := { name := "ytgnockaonokmaaa", sum := "9c1339163c18c89279db86bf9cc2eaab055d6f121aa66cd3f029127cab386262", checked := Try.checked }
namespace Rows
def none {H : Type} : Left H := { results := [], args := [] }

/-- 'aqueductlaw28.ExcuseOpen': WHATEVER THE INPUT: true; the input reads as it did. -/
def excuseOpenSpec : ChangeSpec := { name := "excuseOpen", fn := fun _ => fun
  | [d1, d2] => { results := [.lit (.bool true)], args := [d1, d2] }
  | _ => none }
def excuseOpenRow : OpenClaim := { program := "ytgnockaonokmaaa", sum := "9c1339163c18c89279db86bf9cc2eaab055d6f121aa66cd3f029127cab386262", func := "aqueduct/aqueductlaw28.ExcuseOpen", spec := "excuseOpen", unfollowed := true, recurses := true, plainKeys := false, apart := false }
def ExcuseOpenSaid : Prop := excuseOpenRow.holds Try.pinned (OpenSpec.ofChange excuseOpenSpec)

/-- ITS FALSE NEIGHBOUR: 'it returns false'. Refute it at one input. -/
def excuseOpenWrong : ChangeSpec := { name := "excuseOpen", fn := fun _ => fun
  | [d1, d2] => { results := [.lit (.bool false)], args := [d1, d2] }
  | _ => none }
def ExcuseOpenWrongFalsely : Prop := excuseOpenRow.holds Try.pinned (OpenSpec.ofChange excuseOpenWrong)

/-- 'aqueductlaw28.ExcuseDeadline': WHATEVER THE INPUT: true; the input reads as it did. -/
def excuseDeadlineSpec : ChangeSpec := { name := "excuseDeadline", fn := fun _ => fun
  | [d1, d2, d3, d4] => { results := [.lit (.bool true)], args := [d1, d2, d3, d4] }
  | _ => none }
def excuseDeadlineRow : OpenClaim := { program := "ytgnockaonokmaaa", sum := "9c1339163c18c89279db86bf9cc2eaab055d6f121aa66cd3f029127cab386262", func := "aqueduct/aqueductlaw28.ExcuseDeadline", spec := "excuseDeadline", unfollowed := true, recurses := true, plainKeys := false, apart := false }
def ExcuseDeadlineSaid : Prop := excuseDeadlineRow.holds Try.pinned (OpenSpec.ofChange excuseDeadlineSpec)

/-- ITS FALSE NEIGHBOUR: 'it returns false'. Refute it at one input. -/
def excuseDeadlineWrong : ChangeSpec := { name := "excuseDeadline", fn := fun _ => fun
  | [d1, d2, d3, d4] => { results := [.lit (.bool false)], args := [d1, d2, d3, d4] }
  | _ => none }
def ExcuseDeadlineWrongFalsely : Prop := excuseDeadlineRow.holds Try.pinned (OpenSpec.ofChange excuseDeadlineWrong)

/-- 'aqueductlaw28.ExcuseOf': WHATEVER THE INPUT: true; the input reads as it did. -/
def excuseOfSpec : ChangeSpec := { name := "excuseOf", fn := fun _ => fun
  | [d1, d2] => { results := [.lit (.bool true)], args := [d1, d2] }
  | _ => none }
def excuseOfRow : OpenClaim := { program := "ytgnockaonokmaaa", sum := "9c1339163c18c89279db86bf9cc2eaab055d6f121aa66cd3f029127cab386262", func := "aqueduct/aqueductlaw28.ExcuseOf", spec := "excuseOf", unfollowed := true, recurses := true, plainKeys := false, apart := false }
def ExcuseOfSaid : Prop := excuseOfRow.holds Try.pinned (OpenSpec.ofChange excuseOfSpec)

/-- ITS FALSE NEIGHBOUR: 'it returns false'. Refute it at one input. -/
def excuseOfWrong : ChangeSpec := { name := "excuseOf", fn := fun _ => fun
  | [d1, d2] => { results := [.lit (.bool false)], args := [d1, d2] }
  | _ => none }
def ExcuseOfWrongFalsely : Prop := excuseOfRow.holds Try.pinned (OpenSpec.ofChange excuseOfWrong)

/-- 'aqueductlaw28.ExcuseFull': WHATEVER THE INPUT: true; the input reads as it did. -/
def excuseFullSpec : ChangeSpec := { name := "excuseFull", fn := fun _ => fun
  | [d] => { results := [.lit (.bool true)], args := [d] }
  | _ => none }
def excuseFullRow : OpenClaim := { program := "ytgnockaonokmaaa", sum := "9c1339163c18c89279db86bf9cc2eaab055d6f121aa66cd3f029127cab386262", func := "aqueduct/aqueductlaw28.ExcuseFull", spec := "excuseFull", unfollowed := true, recurses := true, plainKeys := false, apart := false }
def ExcuseFullSaid : Prop := excuseFullRow.holds Try.pinned (OpenSpec.ofChange excuseFullSpec)

/-- ITS FALSE NEIGHBOUR: 'it returns false'. Refute it at one input. -/
def excuseFullWrong : ChangeSpec := { name := "excuseFull", fn := fun _ => fun
  | [d] => { results := [.lit (.bool false)], args := [d] }
  | _ => none }
def ExcuseFullWrongFalsely : Prop := excuseFullRow.holds Try.pinned (OpenSpec.ofChange excuseFullWrong)

/- THE SECOND FORM. 'bulk': how many values and letters a reading holds, each counted each time it is reached (what is shared counts as often as it is met; a slice's spare places count too). A statement '..UptoSaid' is the law's where the arguments, and the package variables that the reading takes, are together of bulk at most 1048576: NARROWER than '..Said'. Prove '..Said' where nothing that the law and all that it calls make is longer than what came in: it says more and counts as full. Else prove '..UptoSaid'. A law counts once. -/
mutual
def uptoBulk {H : Type} : DataW H → Nat
  | .lit (.string bytes) => bytes.length + 1
  | .lit _ => 1
  | .nil => 1
  | .ptr d => uptoBulk d + 1
  | .slice elems spare => uptoBulkAll elems + uptoBulkAll spare + 1
  | .agg parts => uptoBulkAll parts + 1
  | .iface _ d => uptoBulk d + 1
  | .map entries => uptoBulkEntries entries + 1
  | .held _ => 1
def uptoBulkAll {H : Type} : List (DataW H) → Nat
  | [] => 0
  | d :: r => uptoBulk d + uptoBulkAll r
def uptoBulkEntries {H : Type} : List (Lit × DataW H) → Nat
  | [] => 0
  | x :: r => uptoBulkEntry x + uptoBulkEntries r
def uptoBulkEntry {H : Type} : Lit × DataW H → Nat
  | (.string bytes, d) => bytes.length + uptoBulk d + 1
  | (_, d) => uptoBulk d + 1
 end
def uptoSmall : (H : Type) → List (DataW H) → Bool := fun _ ds => decide (uptoBulkAll ds ≤ 1048576)
def OpenSpec.upto (s : _root_.Go.ChangeSpec) : _root_.Go.OpenSpec := { _root_.Go.OpenSpec.ofChange s with cond := some uptoSmall }

/-- 'aqueductlaw28.ExcuseOpen', WHERE WHAT IT READS IS OF BULK AT MOST 1048576: true; the input reads as it did. -/
def excuseOpenUptoRow : OpenClaim := { program := "ytgnockaonokmaaa", sum := "9c1339163c18c89279db86bf9cc2eaab055d6f121aa66cd3f029127cab386262", func := "aqueduct/aqueductlaw28.ExcuseOpen", spec := "excuseOpen", unfollowed := true, recurses := true, plainKeys := false, apart := false, narrowed := true }
def ExcuseOpenUptoSaid : Prop := excuseOpenUptoRow.holds Try.pinned (OpenSpec.upto excuseOpenSpec)

/-- 'aqueductlaw28.ExcuseDeadline', WHERE WHAT IT READS IS OF BULK AT MOST 1048576: true; the input reads as it did. -/
def excuseDeadlineUptoRow : OpenClaim := { program := "ytgnockaonokmaaa", sum := "9c1339163c18c89279db86bf9cc2eaab055d6f121aa66cd3f029127cab386262", func := "aqueduct/aqueductlaw28.ExcuseDeadline", spec := "excuseDeadline", unfollowed := true, recurses := true, plainKeys := false, apart := false, narrowed := true }
def ExcuseDeadlineUptoSaid : Prop := excuseDeadlineUptoRow.holds Try.pinned (OpenSpec.upto excuseDeadlineSpec)

/-- 'aqueductlaw28.ExcuseOf', WHERE WHAT IT READS IS OF BULK AT MOST 1048576: true; the input reads as it did. -/
def excuseOfUptoRow : OpenClaim := { program := "ytgnockaonokmaaa", sum := "9c1339163c18c89279db86bf9cc2eaab055d6f121aa66cd3f029127cab386262", func := "aqueduct/aqueductlaw28.ExcuseOf", spec := "excuseOf", unfollowed := true, recurses := true, plainKeys := false, apart := false, narrowed := true }
def ExcuseOfUptoSaid : Prop := excuseOfUptoRow.holds Try.pinned (OpenSpec.upto excuseOfSpec)

/-- 'aqueductlaw28.ExcuseFull', WHERE WHAT IT READS IS OF BULK AT MOST 1048576: true; the input reads as it did. -/
def excuseFullUptoRow : OpenClaim := { program := "ytgnockaonokmaaa", sum := "9c1339163c18c89279db86bf9cc2eaab055d6f121aa66cd3f029127cab386262", func := "aqueduct/aqueductlaw28.ExcuseFull", spec := "excuseFull", unfollowed := true, recurses := true, plainKeys := false, apart := false, narrowed := true }
def ExcuseFullUptoSaid : Prop := excuseFullUptoRow.holds Try.pinned (OpenSpec.upto excuseFullSpec)

end Rows
end Go.Proofs.Ytgnockaonokmaaa
