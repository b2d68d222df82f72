/-
  No cell of these rows narrows 'for every input' (looked for: loops, veiled, ifaces, maps, wideKeys, modest, calm, conditions, laid).
  DERIVED. THE GIVEN ROWS OF THIS SEAT. 5 by the template 'for every input the law returns true; each argument reads behind the call as it read before'; 0 by the template 'total and deterministic' (their statements: YtbdjfccgkdgbfaaTotals.lean).
  GIVEN WITH THE SEED: the statements are not yours to turn. If you find one false, say at which input.
  Laid BY PROGRAM, IN A SANDBOX (cutbox-rows.mjs): the forced cells as the released guide's own fill.sh prints them over the translation 5b873e0222852c41… (all of the seat's roots in one cut). By AI agents, Wed Nov 11 2026. No macro, syntax, notation, axiom, sorry.
-/
import Derived.Test.YtbdjfccgkdgbfaaChecked
import GoSem.Claim
import GoSem.ClaimJoined
import GoSem.ClaimMapViews
import Derived.JoinedTies
import Derived.KernelRfl
namespace Go.Proofs.Ytbdjfccgkdgbfaa
/- THE CELL 'sum', in the pinned program and in every row, IS THE sha256 OF THE DUMP (.gsa) THAT YtbdjfccgkdgbfaaProg.lean LOADS. Nothing in Lean hashes anything: it is a label: what it is worth is what the hold of that sum in a sandbox is worth. -/
noncomputable def Try.pinned : Pinned := { name := "ytbdjfccgkdgbfaa", sum := "5b873e0222852c413a8588e9e41b54566cbb42a793f5c100b6e9899f83e9e4ee", checked := Try.checked }
namespace Rows
def none {H : Type} : Left H := { results := [], args := [] }

/-- 'aqueductlaw38.BroadcastFull': WHATEVER THE INPUT: true; the input reads as it did. -/
def broadcastFullSpec : ChangeSpec := { name := "broadcastFull", fn := fun _ => fun
  | [d] => { results := [.lit (.bool true)], args := [d] }
  | _ => none }
def broadcastFullRow : OpenClaim := { program := "ytbdjfccgkdgbfaa", sum := "5b873e0222852c413a8588e9e41b54566cbb42a793f5c100b6e9899f83e9e4ee", func := "aqueduct/aqueductlaw38.BroadcastFull", spec := "broadcastFull", unfollowed := true, recurses := true, apart := false }
def BroadcastFullSaid : Prop := broadcastFullRow.holds Try.pinned (OpenSpec.ofChange broadcastFullSpec)

/-- ITS FALSE NEIGHBOUR: 'it returns false'. Refute it at one input. -/
def broadcastFullWrong : ChangeSpec := { name := "broadcastFull", fn := fun _ => fun
  | [d] => { results := [.lit (.bool false)], args := [d] }
  | _ => none }
def BroadcastFullWrongFalsely : Prop := broadcastFullRow.holds Try.pinned (OpenSpec.ofChange broadcastFullWrong)

/-- 'aqueductlaw38.BroadcastHolds': WHATEVER THE INPUT: true; the input reads as it did. -/
def broadcastHoldsSpec : ChangeSpec := { name := "broadcastHolds", fn := fun _ => fun
  | [d1, d2, d3, d4] => { results := [.lit (.bool true)], args := [d1, d2, d3, d4] }
  | _ => none }
def broadcastHoldsRow : OpenClaim := { program := "ytbdjfccgkdgbfaa", sum := "5b873e0222852c413a8588e9e41b54566cbb42a793f5c100b6e9899f83e9e4ee", func := "aqueduct/aqueductlaw38.BroadcastHolds", spec := "broadcastHolds", unfollowed := true, recurses := true, apart := false }
def BroadcastHoldsSaid : Prop := broadcastHoldsRow.holds Try.pinned (OpenSpec.ofChange broadcastHoldsSpec)

/-- ITS FALSE NEIGHBOUR: 'it returns false'. Refute it at one input. -/
def broadcastHoldsWrong : ChangeSpec := { name := "broadcastHolds", fn := fun _ => fun
  | [d1, d2, d3, d4] => { results := [.lit (.bool false)], args := [d1, d2, d3, d4] }
  | _ => none }
def BroadcastHoldsWrongFalsely : Prop := broadcastHoldsRow.holds Try.pinned (OpenSpec.ofChange broadcastHoldsWrong)

/-- 'aqueductlaw38.BroadcastPlays': WHATEVER THE INPUT: true; the input reads as it did. -/
def broadcastPlaysSpec : ChangeSpec := { name := "broadcastPlays", fn := fun _ => fun
  | [d] => { results := [.lit (.bool true)], args := [d] }
  | _ => none }
def broadcastPlaysRow : OpenClaim := { program := "ytbdjfccgkdgbfaa", sum := "5b873e0222852c413a8588e9e41b54566cbb42a793f5c100b6e9899f83e9e4ee", func := "aqueduct/aqueductlaw38.BroadcastPlays", spec := "broadcastPlays", unfollowed := true, recurses := true, apart := false }
def BroadcastPlaysSaid : Prop := broadcastPlaysRow.holds Try.pinned (OpenSpec.ofChange broadcastPlaysSpec)

/-- ITS FALSE NEIGHBOUR: 'it returns false'. Refute it at one input. -/
def broadcastPlaysWrong : ChangeSpec := { name := "broadcastPlays", fn := fun _ => fun
  | [d] => { results := [.lit (.bool false)], args := [d] }
  | _ => none }
def BroadcastPlaysWrongFalsely : Prop := broadcastPlaysRow.holds Try.pinned (OpenSpec.ofChange broadcastPlaysWrong)

/-- 'aqueductlaw38.BroadcastCopies': WHATEVER THE INPUT: true; the input reads as it did. -/
def broadcastCopiesSpec : ChangeSpec := { name := "broadcastCopies", fn := fun _ => fun
  | [d1, d2, d3] => { results := [.lit (.bool true)], args := [d1, d2, d3] }
  | _ => none }
def broadcastCopiesRow : OpenClaim := { program := "ytbdjfccgkdgbfaa", sum := "5b873e0222852c413a8588e9e41b54566cbb42a793f5c100b6e9899f83e9e4ee", func := "aqueduct/aqueductlaw38.BroadcastCopies", spec := "broadcastCopies", inPlace := ["maps.clone"], unfollowed := true, recurses := true, apart := false }
def BroadcastCopiesSaid : Prop := broadcastCopiesRow.holds Try.pinned (OpenSpec.ofChange broadcastCopiesSpec)

/-- ITS FALSE NEIGHBOUR: 'it returns false'. Refute it at one input. -/
def broadcastCopiesWrong : ChangeSpec := { name := "broadcastCopies", fn := fun _ => fun
  | [d1, d2, d3] => { results := [.lit (.bool false)], args := [d1, d2, d3] }
  | _ => none }
def BroadcastCopiesWrongFalsely : Prop := broadcastCopiesRow.holds Try.pinned (OpenSpec.ofChange broadcastCopiesWrong)

/-- 'aqueductlaw38.BroadcastNone': WHATEVER THE INPUT: true; the input reads as it did. -/
def broadcastNoneSpec : ChangeSpec := { name := "broadcastNone", fn := fun _ => fun
  | [d] => { results := [.lit (.bool true)], args := [d] }
  | _ => none }
def broadcastNoneRow : OpenClaim := { program := "ytbdjfccgkdgbfaa", sum := "5b873e0222852c413a8588e9e41b54566cbb42a793f5c100b6e9899f83e9e4ee", func := "aqueduct/aqueductlaw38.BroadcastNone", spec := "broadcastNone", inPlace := ["maps.clone"], unfollowed := true, recurses := true, apart := false }
def BroadcastNoneSaid : Prop := broadcastNoneRow.holds Try.pinned (OpenSpec.ofChange broadcastNoneSpec)

/-- ITS FALSE NEIGHBOUR: 'it returns false'. Refute it at one input. -/
def broadcastNoneWrong : ChangeSpec := { name := "broadcastNone", fn := fun _ => fun
  | [d] => { results := [.lit (.bool false)], args := [d] }
  | _ => none }
def BroadcastNoneWrongFalsely : Prop := broadcastNoneRow.holds Try.pinned (OpenSpec.ofChange broadcastNoneWrong)

/- THE SECOND FORM. 'bulk': how many values and letters a reading holds, each counted each time it is reached (what is shared counts as often as it is met; a slice's spare places count too). A statement '..UptoSaid' is the law's where the arguments, and the package variables that the reading takes, are together of bulk at most 1048576: NARROWER than '..Said'. Prove '..Said' where nothing that the law and all that it calls make is longer than what came in: it says more and counts as full. Else prove '..UptoSaid'. A law counts once. -/
mutual
def uptoBulk {H : Type} : DataW H → Nat
  | .lit (.string bytes) => bytes.length + 1
  | .lit _ => 1
  | .nil => 1
  | .ptr d => uptoBulk d + 1
  | .slice elems spare => uptoBulkAll elems + uptoBulkAll spare + 1
  | .agg parts => uptoBulkAll parts + 1
  | .iface _ d => uptoBulk d + 1
  | .map entries => uptoBulkEntries entries + 1
  | .held _ => 1
def uptoBulkAll {H : Type} : List (DataW H) → Nat
  | [] => 0
  | d :: r => uptoBulk d + uptoBulkAll r
def uptoBulkEntries {H : Type} : List (Lit × DataW H) → Nat
  | [] => 0
  | x :: r => uptoBulkEntry x + uptoBulkEntries r
def uptoBulkEntry {H : Type} : Lit × DataW H → Nat
  | (.string bytes, d) => bytes.length + uptoBulk d + 1
  | (_, d) => uptoBulk d + 1
 end
def uptoSmall : (H : Type) → List (DataW H) → Bool := fun _ ds => decide (uptoBulkAll ds ≤ 1048576)
def OpenSpec.upto (s : _root_.Go.ChangeSpec) : _root_.Go.OpenSpec := { _root_.Go.OpenSpec.ofChange s with cond := some uptoSmall }

/-- 'aqueductlaw38.BroadcastFull', WHERE WHAT IT READS IS OF BULK AT MOST 1048576: true; the input reads as it did. -/
def broadcastFullUptoRow : OpenClaim := { program := "ytbdjfccgkdgbfaa", sum := "5b873e0222852c413a8588e9e41b54566cbb42a793f5c100b6e9899f83e9e4ee", func := "aqueduct/aqueductlaw38.BroadcastFull", spec := "broadcastFull", unfollowed := true, recurses := true, apart := false, narrowed := true }
def BroadcastFullUptoSaid : Prop := broadcastFullUptoRow.holds Try.pinned (OpenSpec.upto broadcastFullSpec)

/-- 'aqueductlaw38.BroadcastHolds', WHERE WHAT IT READS IS OF BULK AT MOST 1048576: true; the input reads as it did. -/
def broadcastHoldsUptoRow : OpenClaim := { program := "ytbdjfccgkdgbfaa", sum := "5b873e0222852c413a8588e9e41b54566cbb42a793f5c100b6e9899f83e9e4ee", func := "aqueduct/aqueductlaw38.BroadcastHolds", spec := "broadcastHolds", unfollowed := true, recurses := true, apart := false, narrowed := true }
def BroadcastHoldsUptoSaid : Prop := broadcastHoldsUptoRow.holds Try.pinned (OpenSpec.upto broadcastHoldsSpec)

/-- 'aqueductlaw38.BroadcastPlays', WHERE WHAT IT READS IS OF BULK AT MOST 1048576: true; the input reads as it did. -/
def broadcastPlaysUptoRow : OpenClaim := { program := "ytbdjfccgkdgbfaa", sum := "5b873e0222852c413a8588e9e41b54566cbb42a793f5c100b6e9899f83e9e4ee", func := "aqueduct/aqueductlaw38.BroadcastPlays", spec := "broadcastPlays", unfollowed := true, recurses := true, apart := false, narrowed := true }
def BroadcastPlaysUptoSaid : Prop := broadcastPlaysUptoRow.holds Try.pinned (OpenSpec.upto broadcastPlaysSpec)

/-- 'aqueductlaw38.BroadcastCopies', WHERE WHAT IT READS IS OF BULK AT MOST 1048576: true; the input reads as it did. -/
def broadcastCopiesUptoRow : OpenClaim := { program := "ytbdjfccgkdgbfaa", sum := "5b873e0222852c413a8588e9e41b54566cbb42a793f5c100b6e9899f83e9e4ee", func := "aqueduct/aqueductlaw38.BroadcastCopies", spec := "broadcastCopies", inPlace := ["maps.clone"], unfollowed := true, recurses := true, apart := false, narrowed := true }
def BroadcastCopiesUptoSaid : Prop := broadcastCopiesUptoRow.holds Try.pinned (OpenSpec.upto broadcastCopiesSpec)

/-- 'aqueductlaw38.BroadcastNone', WHERE WHAT IT READS IS OF BULK AT MOST 1048576: true; the input reads as it did. -/
def broadcastNoneUptoRow : OpenClaim := { program := "ytbdjfccgkdgbfaa", sum := "5b873e0222852c413a8588e9e41b54566cbb42a793f5c100b6e9899f83e9e4ee", func := "aqueduct/aqueductlaw38.BroadcastNone", spec := "broadcastNone", inPlace := ["maps.clone"], unfollowed := true, recurses := true, apart := false, narrowed := true }
def BroadcastNoneUptoSaid : Prop := broadcastNoneUptoRow.holds Try.pinned (OpenSpec.upto broadcastNoneSpec)

end Rows
end Go.Proofs.Ytbdjfccgkdgbfaa
