/-
  No cell of these rows narrows 'for every input' (looked for: loops, veiled, ifaces, maps, wideKeys, modest, calm, conditions, laid).
  DERIVED. THE GIVEN ROWS OF THIS SEAT. 4 by the template 'for every input the law returns true; each argument reads behind the call as it read before'; 0 by the template 'total and deterministic' (their statements: YtoiokbmgdcaaoaaTotals.lean).
  GIVEN WITH THE SEED: the statements are not yours to turn. If you find one false, say at which input.
  Laid BY PROGRAM, IN A SANDBOX (cutbox-rows.mjs): the forced cells as the released guide's own fill.sh prints them over the translation 4bd4725bd2c4f475… (all of the seat's roots in one cut). By AI agents, Wed Nov 11 2026. No macro, syntax, notation, axiom, sorry.
-/
import Derived.Test.YtoiokbmgdcaaoaaChecked
import GoSem.Claim
import GoSem.ClaimJoined
import GoSem.ClaimMapViews
import Derived.JoinedTies
import Derived.KernelRfl
namespace Go.Proofs.Ytoiokbmgdcaaoaa
/- THE CELL 'sum', in the pinned program and in every row, IS THE sha256 OF THE DUMP (.gsa) THAT YtoiokbmgdcaaoaaProg.lean LOADS. Nothing in Lean hashes anything: it is a label: what it is worth is what the hold of that sum in a sandbox is worth. -/
noncomputable def Try.pinned : Pinned := { name := "ytoiokbmgdcaaoaa", sum := "4bd4725bd2c4f47582968d58b149cb4262f05a2c6fb050374434ebdac3cf925d", checked := Try.checked }
namespace Rows
def none {H : Type} : Left H := { results := [], args := [] }

/-- 'aqueductlaw27.ConserveLinks': WHATEVER THE INPUT: true; the input reads as it did. -/
def conserveLinksSpec : ChangeSpec := { name := "conserveLinks", fn := fun _ => fun
  | [d] => { results := [.lit (.bool true)], args := [d] }
  | _ => none }
def conserveLinksRow : OpenClaim := { program := "ytoiokbmgdcaaoaa", sum := "4bd4725bd2c4f47582968d58b149cb4262f05a2c6fb050374434ebdac3cf925d", func := "aqueduct/aqueductlaw27.ConserveLinks", spec := "conserveLinks", inPlace := ["internal/bytealg.MakeNoZero"], unfollowed := true, recurses := true, apart := false }
def ConserveLinksSaid : Prop := conserveLinksRow.holds Try.pinned (OpenSpec.ofChange conserveLinksSpec)

/-- ITS FALSE NEIGHBOUR: 'it returns false'. Refute it at one input. -/
def conserveLinksWrong : ChangeSpec := { name := "conserveLinks", fn := fun _ => fun
  | [d] => { results := [.lit (.bool false)], args := [d] }
  | _ => none }
def ConserveLinksWrongFalsely : Prop := conserveLinksRow.holds Try.pinned (OpenSpec.ofChange conserveLinksWrong)

/-- 'aqueductlaw27.ConservePipes': WHATEVER THE INPUT: true; the input reads as it did. -/
def conservePipesSpec : ChangeSpec := { name := "conservePipes", fn := fun _ => fun
  | [d] => { results := [.lit (.bool true)], args := [d] }
  | _ => none }
def conservePipesRow : OpenClaim := { program := "ytoiokbmgdcaaoaa", sum := "4bd4725bd2c4f47582968d58b149cb4262f05a2c6fb050374434ebdac3cf925d", func := "aqueduct/aqueductlaw27.ConservePipes", spec := "conservePipes", inPlace := ["internal/bytealg.MakeNoZero"], unfollowed := true, recurses := true, apart := false }
def ConservePipesSaid : Prop := conservePipesRow.holds Try.pinned (OpenSpec.ofChange conservePipesSpec)

/-- ITS FALSE NEIGHBOUR: 'it returns false'. Refute it at one input. -/
def conservePipesWrong : ChangeSpec := { name := "conservePipes", fn := fun _ => fun
  | [d] => { results := [.lit (.bool false)], args := [d] }
  | _ => none }
def ConservePipesWrongFalsely : Prop := conservePipesRow.holds Try.pinned (OpenSpec.ofChange conservePipesWrong)

/-- 'aqueductlaw27.ConserveOf': WHATEVER THE INPUT: true; the input reads as it did. -/
def conserveOfSpec : ChangeSpec := { name := "conserveOf", fn := fun _ => fun
  | [d1, d2] => { results := [.lit (.bool true)], args := [d1, d2] }
  | _ => none }
def conserveOfRow : OpenClaim := { program := "ytoiokbmgdcaaoaa", sum := "4bd4725bd2c4f47582968d58b149cb4262f05a2c6fb050374434ebdac3cf925d", func := "aqueduct/aqueductlaw27.ConserveOf", spec := "conserveOf", inPlace := ["internal/bytealg.MakeNoZero"], unfollowed := true, recurses := true, apart := false }
def ConserveOfSaid : Prop := conserveOfRow.holds Try.pinned (OpenSpec.ofChange conserveOfSpec)

/-- ITS FALSE NEIGHBOUR: 'it returns false'. Refute it at one input. -/
def conserveOfWrong : ChangeSpec := { name := "conserveOf", fn := fun _ => fun
  | [d1, d2] => { results := [.lit (.bool false)], args := [d1, d2] }
  | _ => none }
def ConserveOfWrongFalsely : Prop := conserveOfRow.holds Try.pinned (OpenSpec.ofChange conserveOfWrong)

/-- 'aqueductlaw27.ConserveFull': WHATEVER THE INPUT: true; the input reads as it did. -/
def conserveFullSpec : ChangeSpec := { name := "conserveFull", fn := fun _ => fun
  | [d] => { results := [.lit (.bool true)], args := [d] }
  | _ => none }
def conserveFullRow : OpenClaim := { program := "ytoiokbmgdcaaoaa", sum := "4bd4725bd2c4f47582968d58b149cb4262f05a2c6fb050374434ebdac3cf925d", func := "aqueduct/aqueductlaw27.ConserveFull", spec := "conserveFull", inPlace := ["internal/bytealg.MakeNoZero"], unfollowed := true, recurses := true, apart := false }
def ConserveFullSaid : Prop := conserveFullRow.holds Try.pinned (OpenSpec.ofChange conserveFullSpec)

/-- ITS FALSE NEIGHBOUR: 'it returns false'. Refute it at one input. -/
def conserveFullWrong : ChangeSpec := { name := "conserveFull", fn := fun _ => fun
  | [d] => { results := [.lit (.bool false)], args := [d] }
  | _ => none }
def ConserveFullWrongFalsely : Prop := conserveFullRow.holds Try.pinned (OpenSpec.ofChange conserveFullWrong)

/- THE SECOND FORM. 'bulk': how many values and letters a reading holds, each counted each time it is reached (what is shared counts as often as it is met; a slice's spare places count too). A statement '..UptoSaid' is the law's where the arguments, and the package variables that the reading takes, are together of bulk at most 1048576: NARROWER than '..Said'. Prove '..Said' where nothing that the law and all that it calls make is longer than what came in: it says more and counts as full. Else prove '..UptoSaid'. A law counts once. -/
mutual
def uptoBulk {H : Type} : DataW H → Nat
  | .lit (.string bytes) => bytes.length + 1
  | .lit _ => 1
  | .nil => 1
  | .ptr d => uptoBulk d + 1
  | .slice elems spare => uptoBulkAll elems + uptoBulkAll spare + 1
  | .agg parts => uptoBulkAll parts + 1
  | .iface _ d => uptoBulk d + 1
  | .map entries => uptoBulkEntries entries + 1
  | .held _ => 1
def uptoBulkAll {H : Type} : List (DataW H) → Nat
  | [] => 0
  | d :: r => uptoBulk d + uptoBulkAll r
def uptoBulkEntries {H : Type} : List (Lit × DataW H) → Nat
  | [] => 0
  | x :: r => uptoBulkEntry x + uptoBulkEntries r
def uptoBulkEntry {H : Type} : Lit × DataW H → Nat
  | (.string bytes, d) => bytes.length + uptoBulk d + 1
  | (_, d) => uptoBulk d + 1
 end
def uptoSmall : (H : Type) → List (DataW H) → Bool := fun _ ds => decide (uptoBulkAll ds ≤ 1048576)
def OpenSpec.upto (s : _root_.Go.ChangeSpec) : _root_.Go.OpenSpec := { _root_.Go.OpenSpec.ofChange s with cond := some uptoSmall }

/-- 'aqueductlaw27.ConserveLinks', WHERE WHAT IT READS IS OF BULK AT MOST 1048576: true; the input reads as it did. -/
def conserveLinksUptoRow : OpenClaim := { program := "ytoiokbmgdcaaoaa", sum := "4bd4725bd2c4f47582968d58b149cb4262f05a2c6fb050374434ebdac3cf925d", func := "aqueduct/aqueductlaw27.ConserveLinks", spec := "conserveLinks", inPlace := ["internal/bytealg.MakeNoZero"], unfollowed := true, recurses := true, apart := false, narrowed := true }
def ConserveLinksUptoSaid : Prop := conserveLinksUptoRow.holds Try.pinned (OpenSpec.upto conserveLinksSpec)

/-- 'aqueductlaw27.ConservePipes', WHERE WHAT IT READS IS OF BULK AT MOST 1048576: true; the input reads as it did. -/
def conservePipesUptoRow : OpenClaim := { program := "ytoiokbmgdcaaoaa", sum := "4bd4725bd2c4f47582968d58b149cb4262f05a2c6fb050374434ebdac3cf925d", func := "aqueduct/aqueductlaw27.ConservePipes", spec := "conservePipes", inPlace := ["internal/bytealg.MakeNoZero"], unfollowed := true, recurses := true, apart := false, narrowed := true }
def ConservePipesUptoSaid : Prop := conservePipesUptoRow.holds Try.pinned (OpenSpec.upto conservePipesSpec)

/-- 'aqueductlaw27.ConserveOf', WHERE WHAT IT READS IS OF BULK AT MOST 1048576: true; the input reads as it did. -/
def conserveOfUptoRow : OpenClaim := { program := "ytoiokbmgdcaaoaa", sum := "4bd4725bd2c4f47582968d58b149cb4262f05a2c6fb050374434ebdac3cf925d", func := "aqueduct/aqueductlaw27.ConserveOf", spec := "conserveOf", inPlace := ["internal/bytealg.MakeNoZero"], unfollowed := true, recurses := true, apart := false, narrowed := true }
def ConserveOfUptoSaid : Prop := conserveOfUptoRow.holds Try.pinned (OpenSpec.upto conserveOfSpec)

/-- 'aqueductlaw27.ConserveFull', WHERE WHAT IT READS IS OF BULK AT MOST 1048576: true; the input reads as it did. -/
def conserveFullUptoRow : OpenClaim := { program := "ytoiokbmgdcaaoaa", sum := "4bd4725bd2c4f47582968d58b149cb4262f05a2c6fb050374434ebdac3cf925d", func := "aqueduct/aqueductlaw27.ConserveFull", spec := "conserveFull", inPlace := ["internal/bytealg.MakeNoZero"], unfollowed := true, recurses := true, apart := false, narrowed := true }
def ConserveFullUptoSaid : Prop := conserveFullUptoRow.holds Try.pinned (OpenSpec.upto conserveFullSpec)

end Rows
end Go.Proofs.Ytoiokbmgdcaaoaa
