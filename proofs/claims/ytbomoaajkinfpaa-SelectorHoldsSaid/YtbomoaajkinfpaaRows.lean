/-
  No cell of these rows narrows 'for every input' (looked for: loops, veiled, ifaces, maps, wideKeys, modest, calm, conditions, laid).
  DERIVED. THE GIVEN ROWS OF THIS SEAT. 6 by the template 'for every input the law returns true; each argument reads behind the call as it read before'; 0 by the template 'total and deterministic' (their statements: YtbomoaajkinfpaaTotals.lean).
  GIVEN WITH THE SEED: the statements are not yours to turn. If you find one false, say at which input.
  Laid BY PROGRAM, IN A SANDBOX (cutbox-rows.mjs): the forced cells as the released guide's own fill.sh prints them over the translation 3fdf4f49f514430d… (all of the seat's roots in one cut). By AI agents, Wed Nov 11 2026. No macro, syntax, notation, axiom, sorry.
-/
import Derived.Test.YtbomoaajkinfpaaChecked
import GoSem.Claim
import GoSem.ClaimJoined
import GoSem.ClaimMapViews
import Derived.JoinedTies
import Derived.KernelRfl
namespace Go.Proofs.Ytbomoaajkinfpaa
/- THE CELL 'sum', in the pinned program and in every row, IS THE sha256 OF THE DUMP (.gsa) THAT YtbomoaajkinfpaaProg.lean LOADS. Nothing in Lean hashes anything: it is a label: what it is worth is what the hold of that sum in a sandbox is worth. -/
noncomputable def Try.pinned : Pinned := { name := "ytbomoaajkinfpaa", sum := "3fdf4f49f514430dbd5c2f6bba2437b3905effd79f232b7fb619f85188e45e44", checked := Try.checked }
namespace Rows
def none {H : Type} : Left H := { results := [], args := [] }

/-- 'aqueductlaw37.SelectorOne': WHATEVER THE INPUT: true; the input reads as it did. -/
def selectorOneSpec : ChangeSpec := { name := "selectorOne", fn := fun _ => fun
  | [d1, d2] => { results := [.lit (.bool true)], args := [d1, d2] }
  | _ => none }
def selectorOneRow : OpenClaim := { program := "ytbomoaajkinfpaa", sum := "3fdf4f49f514430dbd5c2f6bba2437b3905effd79f232b7fb619f85188e45e44", func := "aqueduct/aqueductlaw37.SelectorOne", spec := "selectorOne", unfollowed := true, recurses := true, apart := false }
def SelectorOneSaid : Prop := selectorOneRow.holds Try.pinned (OpenSpec.ofChange selectorOneSpec)

/-- ITS FALSE NEIGHBOUR: 'it returns false'. Refute it at one input. -/
def selectorOneWrong : ChangeSpec := { name := "selectorOne", fn := fun _ => fun
  | [d1, d2] => { results := [.lit (.bool false)], args := [d1, d2] }
  | _ => none }
def SelectorOneWrongFalsely : Prop := selectorOneRow.holds Try.pinned (OpenSpec.ofChange selectorOneWrong)

/-- 'aqueductlaw37.SelectorNew': WHATEVER THE INPUT: true; the input reads as it did. -/
def selectorNewSpec : ChangeSpec := { name := "selectorNew", fn := fun _ => fun
  | [d] => { results := [.lit (.bool true)], args := [d] }
  | _ => none }
def selectorNewRow : OpenClaim := { program := "ytbomoaajkinfpaa", sum := "3fdf4f49f514430dbd5c2f6bba2437b3905effd79f232b7fb619f85188e45e44", func := "aqueduct/aqueductlaw37.SelectorNew", spec := "selectorNew", unfollowed := true, recurses := true, apart := false }
def SelectorNewSaid : Prop := selectorNewRow.holds Try.pinned (OpenSpec.ofChange selectorNewSpec)

/-- ITS FALSE NEIGHBOUR: 'it returns false'. Refute it at one input. -/
def selectorNewWrong : ChangeSpec := { name := "selectorNew", fn := fun _ => fun
  | [d] => { results := [.lit (.bool false)], args := [d] }
  | _ => none }
def SelectorNewWrongFalsely : Prop := selectorNewRow.holds Try.pinned (OpenSpec.ofChange selectorNewWrong)

/-- 'aqueductlaw37.SelectorPlays': WHATEVER THE INPUT: true; the input reads as it did. -/
def selectorPlaysSpec : ChangeSpec := { name := "selectorPlays", fn := fun _ => fun
  | [d1, d2] => { results := [.lit (.bool true)], args := [d1, d2] }
  | _ => none }
def selectorPlaysRow : OpenClaim := { program := "ytbomoaajkinfpaa", sum := "3fdf4f49f514430dbd5c2f6bba2437b3905effd79f232b7fb619f85188e45e44", func := "aqueduct/aqueductlaw37.SelectorPlays", spec := "selectorPlays", unfollowed := true, recurses := true, apart := false }
def SelectorPlaysSaid : Prop := selectorPlaysRow.holds Try.pinned (OpenSpec.ofChange selectorPlaysSpec)

/-- ITS FALSE NEIGHBOUR: 'it returns false'. Refute it at one input. -/
def selectorPlaysWrong : ChangeSpec := { name := "selectorPlays", fn := fun _ => fun
  | [d1, d2] => { results := [.lit (.bool false)], args := [d1, d2] }
  | _ => none }
def SelectorPlaysWrongFalsely : Prop := selectorPlaysRow.holds Try.pinned (OpenSpec.ofChange selectorPlaysWrong)

/-- 'aqueductlaw37.SelectorHolds': WHATEVER THE INPUT: true; the input reads as it did. -/
def selectorHoldsSpec : ChangeSpec := { name := "selectorHolds", fn := fun _ => fun
  | [d1, d2, d3, d4] => { results := [.lit (.bool true)], args := [d1, d2, d3, d4] }
  | _ => none }
def selectorHoldsRow : OpenClaim := { program := "ytbomoaajkinfpaa", sum := "3fdf4f49f514430dbd5c2f6bba2437b3905effd79f232b7fb619f85188e45e44", func := "aqueduct/aqueductlaw37.SelectorHolds", spec := "selectorHolds", inPlace := ["maps.clone"], unfollowed := true, recurses := true, apart := false }
def SelectorHoldsSaid : Prop := selectorHoldsRow.holds Try.pinned (OpenSpec.ofChange selectorHoldsSpec)

/-- ITS FALSE NEIGHBOUR: 'it returns false'. Refute it at one input. -/
def selectorHoldsWrong : ChangeSpec := { name := "selectorHolds", fn := fun _ => fun
  | [d1, d2, d3, d4] => { results := [.lit (.bool false)], args := [d1, d2, d3, d4] }
  | _ => none }
def SelectorHoldsWrongFalsely : Prop := selectorHoldsRow.holds Try.pinned (OpenSpec.ofChange selectorHoldsWrong)

/-- 'aqueductlaw37.SelectorCopies': WHATEVER THE INPUT: true; the input reads as it did. -/
def selectorCopiesSpec : ChangeSpec := { name := "selectorCopies", fn := fun _ => fun
  | [d1, d2, d3, d4] => { results := [.lit (.bool true)], args := [d1, d2, d3, d4] }
  | _ => none }
def selectorCopiesRow : OpenClaim := { program := "ytbomoaajkinfpaa", sum := "3fdf4f49f514430dbd5c2f6bba2437b3905effd79f232b7fb619f85188e45e44", func := "aqueduct/aqueductlaw37.SelectorCopies", spec := "selectorCopies", inPlace := ["maps.clone"], unfollowed := true, recurses := true, apart := false }
def SelectorCopiesSaid : Prop := selectorCopiesRow.holds Try.pinned (OpenSpec.ofChange selectorCopiesSpec)

/-- ITS FALSE NEIGHBOUR: 'it returns false'. Refute it at one input. -/
def selectorCopiesWrong : ChangeSpec := { name := "selectorCopies", fn := fun _ => fun
  | [d1, d2, d3, d4] => { results := [.lit (.bool false)], args := [d1, d2, d3, d4] }
  | _ => none }
def SelectorCopiesWrongFalsely : Prop := selectorCopiesRow.holds Try.pinned (OpenSpec.ofChange selectorCopiesWrong)

/-- 'aqueductlaw37.SelectorNone': WHATEVER THE INPUT: true; the input reads as it did. -/
def selectorNoneSpec : ChangeSpec := { name := "selectorNone", fn := fun _ => fun
  | [d] => { results := [.lit (.bool true)], args := [d] }
  | _ => none }
def selectorNoneRow : OpenClaim := { program := "ytbomoaajkinfpaa", sum := "3fdf4f49f514430dbd5c2f6bba2437b3905effd79f232b7fb619f85188e45e44", func := "aqueduct/aqueductlaw37.SelectorNone", spec := "selectorNone", inPlace := ["maps.clone"], unfollowed := true, recurses := true, apart := false }
def SelectorNoneSaid : Prop := selectorNoneRow.holds Try.pinned (OpenSpec.ofChange selectorNoneSpec)

/-- ITS FALSE NEIGHBOUR: 'it returns false'. Refute it at one input. -/
def selectorNoneWrong : ChangeSpec := { name := "selectorNone", fn := fun _ => fun
  | [d] => { results := [.lit (.bool false)], args := [d] }
  | _ => none }
def SelectorNoneWrongFalsely : Prop := selectorNoneRow.holds Try.pinned (OpenSpec.ofChange selectorNoneWrong)

/- THE SECOND FORM. 'bulk': how many values and letters a reading holds, each counted each time it is reached (what is shared counts as often as it is met; a slice's spare places count too). A statement '..UptoSaid' is the law's where the arguments, and the package variables that the reading takes, are together of bulk at most 1048576: NARROWER than '..Said'. Prove '..Said' where nothing that the law and all that it calls make is longer than what came in: it says more and counts as full. Else prove '..UptoSaid'. A law counts once. -/
mutual
def uptoBulk {H : Type} : DataW H → Nat
  | .lit (.string bytes) => bytes.length + 1
  | .lit _ => 1
  | .nil => 1
  | .ptr d => uptoBulk d + 1
  | .slice elems spare => uptoBulkAll elems + uptoBulkAll spare + 1
  | .agg parts => uptoBulkAll parts + 1
  | .iface _ d => uptoBulk d + 1
  | .map entries => uptoBulkEntries entries + 1
  | .held _ => 1
def uptoBulkAll {H : Type} : List (DataW H) → Nat
  | [] => 0
  | d :: r => uptoBulk d + uptoBulkAll r
def uptoBulkEntries {H : Type} : List (Lit × DataW H) → Nat
  | [] => 0
  | x :: r => uptoBulkEntry x + uptoBulkEntries r
def uptoBulkEntry {H : Type} : Lit × DataW H → Nat
  | (.string bytes, d) => bytes.length + uptoBulk d + 1
  | (_, d) => uptoBulk d + 1
 end
def uptoSmall : (H : Type) → List (DataW H) → Bool := fun _ ds => decide (uptoBulkAll ds ≤ 1048576)
def OpenSpec.upto (s : _root_.Go.ChangeSpec) : _root_.Go.OpenSpec := { _root_.Go.OpenSpec.ofChange s with cond := some uptoSmall }

/-- 'aqueductlaw37.SelectorOne', WHERE WHAT IT READS IS OF BULK AT MOST 1048576: true; the input reads as it did. -/
def selectorOneUptoRow : OpenClaim := { program := "ytbomoaajkinfpaa", sum := "3fdf4f49f514430dbd5c2f6bba2437b3905effd79f232b7fb619f85188e45e44", func := "aqueduct/aqueductlaw37.SelectorOne", spec := "selectorOne", unfollowed := true, recurses := true, apart := false, narrowed := true }
def SelectorOneUptoSaid : Prop := selectorOneUptoRow.holds Try.pinned (OpenSpec.upto selectorOneSpec)

/-- 'aqueductlaw37.SelectorNew', WHERE WHAT IT READS IS OF BULK AT MOST 1048576: true; the input reads as it did. -/
def selectorNewUptoRow : OpenClaim := { program := "ytbomoaajkinfpaa", sum := "3fdf4f49f514430dbd5c2f6bba2437b3905effd79f232b7fb619f85188e45e44", func := "aqueduct/aqueductlaw37.SelectorNew", spec := "selectorNew", unfollowed := true, recurses := true, apart := false, narrowed := true }
def SelectorNewUptoSaid : Prop := selectorNewUptoRow.holds Try.pinned (OpenSpec.upto selectorNewSpec)

/-- 'aqueductlaw37.SelectorPlays', WHERE WHAT IT READS IS OF BULK AT MOST 1048576: true; the input reads as it did. -/
def selectorPlaysUptoRow : OpenClaim := { program := "ytbomoaajkinfpaa", sum := "3fdf4f49f514430dbd5c2f6bba2437b3905effd79f232b7fb619f85188e45e44", func := "aqueduct/aqueductlaw37.SelectorPlays", spec := "selectorPlays", unfollowed := true, recurses := true, apart := false, narrowed := true }
def SelectorPlaysUptoSaid : Prop := selectorPlaysUptoRow.holds Try.pinned (OpenSpec.upto selectorPlaysSpec)

/-- 'aqueductlaw37.SelectorHolds', WHERE WHAT IT READS IS OF BULK AT MOST 1048576: true; the input reads as it did. -/
def selectorHoldsUptoRow : OpenClaim := { program := "ytbomoaajkinfpaa", sum := "3fdf4f49f514430dbd5c2f6bba2437b3905effd79f232b7fb619f85188e45e44", func := "aqueduct/aqueductlaw37.SelectorHolds", spec := "selectorHolds", inPlace := ["maps.clone"], unfollowed := true, recurses := true, apart := false, narrowed := true }
def SelectorHoldsUptoSaid : Prop := selectorHoldsUptoRow.holds Try.pinned (OpenSpec.upto selectorHoldsSpec)

/-- 'aqueductlaw37.SelectorCopies', WHERE WHAT IT READS IS OF BULK AT MOST 1048576: true; the input reads as it did. -/
def selectorCopiesUptoRow : OpenClaim := { program := "ytbomoaajkinfpaa", sum := "3fdf4f49f514430dbd5c2f6bba2437b3905effd79f232b7fb619f85188e45e44", func := "aqueduct/aqueductlaw37.SelectorCopies", spec := "selectorCopies", inPlace := ["maps.clone"], unfollowed := true, recurses := true, apart := false, narrowed := true }
def SelectorCopiesUptoSaid : Prop := selectorCopiesUptoRow.holds Try.pinned (OpenSpec.upto selectorCopiesSpec)

/-- 'aqueductlaw37.SelectorNone', WHERE WHAT IT READS IS OF BULK AT MOST 1048576: true; the input reads as it did. -/
def selectorNoneUptoRow : OpenClaim := { program := "ytbomoaajkinfpaa", sum := "3fdf4f49f514430dbd5c2f6bba2437b3905effd79f232b7fb619f85188e45e44", func := "aqueduct/aqueductlaw37.SelectorNone", spec := "selectorNone", inPlace := ["maps.clone"], unfollowed := true, recurses := true, apart := false, narrowed := true }
def SelectorNoneUptoSaid : Prop := selectorNoneUptoRow.holds Try.pinned (OpenSpec.upto selectorNoneSpec)

end Rows
end Go.Proofs.Ytbomoaajkinfpaa
