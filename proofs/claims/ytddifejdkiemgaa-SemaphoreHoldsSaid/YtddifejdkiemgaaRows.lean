/-
  No cell of these rows narrows 'for every input' (looked for: loops, veiled, ifaces, maps, wideKeys, modest, calm, conditions, laid).
  DERIVED. THE GIVEN ROWS OF THIS SEAT. 10 by the template 'for every input the law returns true; each argument reads behind the call as it read before'; 0 by the template 'total and deterministic' (their statements: YtddifejdkiemgaaTotals.lean).
  GIVEN WITH THE SEED: the statements are not yours to turn. If you find one false, say at which input.
  Laid BY PROGRAM, IN A SANDBOX (cutbox-rows.mjs): the forced cells as the released guide's own fill.sh prints them over the translation e51b44c1677c3a2a… (all of the seat's roots in one cut). By AI agents, Wed Nov 11 2026. No macro, syntax, notation, axiom, sorry.
-/
import Derived.Test.YtddifejdkiemgaaChecked
import GoSem.Claim
import GoSem.ClaimJoined
import GoSem.ClaimMapViews
import Derived.JoinedTies
import Derived.KernelRfl
namespace Go.Proofs.Ytddifejdkiemgaa
/- THE CELL 'sum', in the pinned program and in every row, IS THE sha256 OF THE DUMP (.gsa) THAT YtddifejdkiemgaaProg.lean LOADS. Nothing in Lean hashes anything: it is a label: what it is worth is what the hold of that sum in a sandbox is worth. -/
noncomputable def Try.pinned : Pinned := { name := "ytddifejdkiemgaa", sum := "e51b44c1677c3a2a609e2034a5246181bfa29cc31ee2c04f6f4cb4226545470a", checked := Try.checked }
namespace Rows
def none {H : Type} : Left H := { results := [], args := [] }

/-- 'aqueductlaw18.BacklogNew': WHATEVER THE INPUT: true; the input reads as it did. -/
def backlogNewSpec : ChangeSpec := { name := "backlogNew", fn := fun _ => fun
  | [d] => { results := [.lit (.bool true)], args := [d] }
  | _ => none }
def backlogNewRow : OpenClaim := { program := "ytddifejdkiemgaa", sum := "e51b44c1677c3a2a609e2034a5246181bfa29cc31ee2c04f6f4cb4226545470a", func := "aqueduct/aqueductlaw18.BacklogNew", spec := "backlogNew", inPlace := ["maps.clone"], unfollowed := true, recurses := true, apart := false }
def BacklogNewSaid : Prop := backlogNewRow.holds Try.pinned (OpenSpec.ofChange backlogNewSpec)

/-- ITS FALSE NEIGHBOUR: 'it returns false'. Refute it at one input. -/
def backlogNewWrong : ChangeSpec := { name := "backlogNew", fn := fun _ => fun
  | [d] => { results := [.lit (.bool false)], args := [d] }
  | _ => none }
def BacklogNewWrongFalsely : Prop := backlogNewRow.holds Try.pinned (OpenSpec.ofChange backlogNewWrong)

/-- 'aqueductlaw18.BacklogFull': WHATEVER THE INPUT: true; the input reads as it did. -/
def backlogFullSpec : ChangeSpec := { name := "backlogFull", fn := fun _ => fun
  | [d1, d2, d3] => { results := [.lit (.bool true)], args := [d1, d2, d3] }
  | _ => none }
def backlogFullRow : OpenClaim := { program := "ytddifejdkiemgaa", sum := "e51b44c1677c3a2a609e2034a5246181bfa29cc31ee2c04f6f4cb4226545470a", func := "aqueduct/aqueductlaw18.BacklogFull", spec := "backlogFull", inPlace := ["maps.clone"], unfollowed := true, recurses := true, apart := false }
def BacklogFullSaid : Prop := backlogFullRow.holds Try.pinned (OpenSpec.ofChange backlogFullSpec)

/-- ITS FALSE NEIGHBOUR: 'it returns false'. Refute it at one input. -/
def backlogFullWrong : ChangeSpec := { name := "backlogFull", fn := fun _ => fun
  | [d1, d2, d3] => { results := [.lit (.bool false)], args := [d1, d2, d3] }
  | _ => none }
def BacklogFullWrongFalsely : Prop := backlogFullRow.holds Try.pinned (OpenSpec.ofChange backlogFullWrong)

/-- 'aqueductlaw18.BacklogHolds': WHATEVER THE INPUT: true; the input reads as it did. -/
def backlogHoldsSpec : ChangeSpec := { name := "backlogHolds", fn := fun _ => fun
  | [d1, d2] => { results := [.lit (.bool true)], args := [d1, d2] }
  | _ => none }
def backlogHoldsRow : OpenClaim := { program := "ytddifejdkiemgaa", sum := "e51b44c1677c3a2a609e2034a5246181bfa29cc31ee2c04f6f4cb4226545470a", func := "aqueduct/aqueductlaw18.BacklogHolds", spec := "backlogHolds", inPlace := ["maps.clone"], unfollowed := true, recurses := true, apart := false }
def BacklogHoldsSaid : Prop := backlogHoldsRow.holds Try.pinned (OpenSpec.ofChange backlogHoldsSpec)

/-- ITS FALSE NEIGHBOUR: 'it returns false'. Refute it at one input. -/
def backlogHoldsWrong : ChangeSpec := { name := "backlogHolds", fn := fun _ => fun
  | [d1, d2] => { results := [.lit (.bool false)], args := [d1, d2] }
  | _ => none }
def BacklogHoldsWrongFalsely : Prop := backlogHoldsRow.holds Try.pinned (OpenSpec.ofChange backlogHoldsWrong)

/-- 'aqueductlaw18.BacklogPlays': WHATEVER THE INPUT: true; the input reads as it did. -/
def backlogPlaysSpec : ChangeSpec := { name := "backlogPlays", fn := fun _ => fun
  | [d1, d2] => { results := [.lit (.bool true)], args := [d1, d2] }
  | _ => none }
def backlogPlaysRow : OpenClaim := { program := "ytddifejdkiemgaa", sum := "e51b44c1677c3a2a609e2034a5246181bfa29cc31ee2c04f6f4cb4226545470a", func := "aqueduct/aqueductlaw18.BacklogPlays", spec := "backlogPlays", inPlace := ["maps.clone"], unfollowed := true, recurses := true, apart := false }
def BacklogPlaysSaid : Prop := backlogPlaysRow.holds Try.pinned (OpenSpec.ofChange backlogPlaysSpec)

/-- ITS FALSE NEIGHBOUR: 'it returns false'. Refute it at one input. -/
def backlogPlaysWrong : ChangeSpec := { name := "backlogPlays", fn := fun _ => fun
  | [d1, d2] => { results := [.lit (.bool false)], args := [d1, d2] }
  | _ => none }
def BacklogPlaysWrongFalsely : Prop := backlogPlaysRow.holds Try.pinned (OpenSpec.ofChange backlogPlaysWrong)

/-- 'aqueductlaw18.BacklogNone': WHATEVER THE INPUT: true; the input reads as it did. -/
def backlogNoneSpec : ChangeSpec := { name := "backlogNone", fn := fun _ => fun
  | [d] => { results := [.lit (.bool true)], args := [d] }
  | _ => none }
def backlogNoneRow : OpenClaim := { program := "ytddifejdkiemgaa", sum := "e51b44c1677c3a2a609e2034a5246181bfa29cc31ee2c04f6f4cb4226545470a", func := "aqueduct/aqueductlaw18.BacklogNone", spec := "backlogNone", inPlace := ["maps.clone"], unfollowed := true, recurses := true, apart := false }
def BacklogNoneSaid : Prop := backlogNoneRow.holds Try.pinned (OpenSpec.ofChange backlogNoneSpec)

/-- ITS FALSE NEIGHBOUR: 'it returns false'. Refute it at one input. -/
def backlogNoneWrong : ChangeSpec := { name := "backlogNone", fn := fun _ => fun
  | [d] => { results := [.lit (.bool false)], args := [d] }
  | _ => none }
def BacklogNoneWrongFalsely : Prop := backlogNoneRow.holds Try.pinned (OpenSpec.ofChange backlogNoneWrong)

/-- 'aqueductlaw35.SemaphoreNew': WHATEVER THE INPUT: true; the input reads as it did. -/
def semaphoreNewSpec : ChangeSpec := { name := "semaphoreNew", fn := fun _ => fun
  | [d1, d2] => { results := [.lit (.bool true)], args := [d1, d2] }
  | _ => none }
def semaphoreNewRow : OpenClaim := { program := "ytddifejdkiemgaa", sum := "e51b44c1677c3a2a609e2034a5246181bfa29cc31ee2c04f6f4cb4226545470a", func := "aqueduct/aqueductlaw35.SemaphoreNew", spec := "semaphoreNew", inPlace := ["maps.clone"], unfollowed := true, recurses := true, apart := false }
def SemaphoreNewSaid : Prop := semaphoreNewRow.holds Try.pinned (OpenSpec.ofChange semaphoreNewSpec)

/-- ITS FALSE NEIGHBOUR: 'it returns false'. Refute it at one input. -/
def semaphoreNewWrong : ChangeSpec := { name := "semaphoreNew", fn := fun _ => fun
  | [d1, d2] => { results := [.lit (.bool false)], args := [d1, d2] }
  | _ => none }
def SemaphoreNewWrongFalsely : Prop := semaphoreNewRow.holds Try.pinned (OpenSpec.ofChange semaphoreNewWrong)

/-- 'aqueductlaw35.SemaphorePlays': WHATEVER THE INPUT: true; the input reads as it did. -/
def semaphorePlaysSpec : ChangeSpec := { name := "semaphorePlays", fn := fun _ => fun
  | [d1, d2, d3] => { results := [.lit (.bool true)], args := [d1, d2, d3] }
  | _ => none }
def semaphorePlaysRow : OpenClaim := { program := "ytddifejdkiemgaa", sum := "e51b44c1677c3a2a609e2034a5246181bfa29cc31ee2c04f6f4cb4226545470a", func := "aqueduct/aqueductlaw35.SemaphorePlays", spec := "semaphorePlays", inPlace := ["maps.clone"], unfollowed := true, recurses := true, apart := false }
def SemaphorePlaysSaid : Prop := semaphorePlaysRow.holds Try.pinned (OpenSpec.ofChange semaphorePlaysSpec)

/-- ITS FALSE NEIGHBOUR: 'it returns false'. Refute it at one input. -/
def semaphorePlaysWrong : ChangeSpec := { name := "semaphorePlays", fn := fun _ => fun
  | [d1, d2, d3] => { results := [.lit (.bool false)], args := [d1, d2, d3] }
  | _ => none }
def SemaphorePlaysWrongFalsely : Prop := semaphorePlaysRow.holds Try.pinned (OpenSpec.ofChange semaphorePlaysWrong)

/-- 'aqueductlaw35.SemaphoreHolds': WHATEVER THE INPUT: true; the input reads as it did. -/
def semaphoreHoldsSpec : ChangeSpec := { name := "semaphoreHolds", fn := fun _ => fun
  | [d1, d2] => { results := [.lit (.bool true)], args := [d1, d2] }
  | _ => none }
def semaphoreHoldsRow : OpenClaim := { program := "ytddifejdkiemgaa", sum := "e51b44c1677c3a2a609e2034a5246181bfa29cc31ee2c04f6f4cb4226545470a", func := "aqueduct/aqueductlaw35.SemaphoreHolds", spec := "semaphoreHolds", inPlace := ["maps.clone"], unfollowed := true, recurses := true, apart := false }
def SemaphoreHoldsSaid : Prop := semaphoreHoldsRow.holds Try.pinned (OpenSpec.ofChange semaphoreHoldsSpec)

/-- ITS FALSE NEIGHBOUR: 'it returns false'. Refute it at one input. -/
def semaphoreHoldsWrong : ChangeSpec := { name := "semaphoreHolds", fn := fun _ => fun
  | [d1, d2] => { results := [.lit (.bool false)], args := [d1, d2] }
  | _ => none }
def SemaphoreHoldsWrongFalsely : Prop := semaphoreHoldsRow.holds Try.pinned (OpenSpec.ofChange semaphoreHoldsWrong)

/-- 'aqueductlaw35.SemaphoreCopies': WHATEVER THE INPUT: true; the input reads as it did. -/
def semaphoreCopiesSpec : ChangeSpec := { name := "semaphoreCopies", fn := fun _ => fun
  | [d1, d2, d3, d4] => { results := [.lit (.bool true)], args := [d1, d2, d3, d4] }
  | _ => none }
def semaphoreCopiesRow : OpenClaim := { program := "ytddifejdkiemgaa", sum := "e51b44c1677c3a2a609e2034a5246181bfa29cc31ee2c04f6f4cb4226545470a", func := "aqueduct/aqueductlaw35.SemaphoreCopies", spec := "semaphoreCopies", inPlace := ["maps.clone"], unfollowed := true, recurses := true, apart := false }
def SemaphoreCopiesSaid : Prop := semaphoreCopiesRow.holds Try.pinned (OpenSpec.ofChange semaphoreCopiesSpec)

/-- ITS FALSE NEIGHBOUR: 'it returns false'. Refute it at one input. -/
def semaphoreCopiesWrong : ChangeSpec := { name := "semaphoreCopies", fn := fun _ => fun
  | [d1, d2, d3, d4] => { results := [.lit (.bool false)], args := [d1, d2, d3, d4] }
  | _ => none }
def SemaphoreCopiesWrongFalsely : Prop := semaphoreCopiesRow.holds Try.pinned (OpenSpec.ofChange semaphoreCopiesWrong)

/-- 'aqueductlaw35.SemaphoreNone': WHATEVER THE INPUT: true; the input reads as it did. -/
def semaphoreNoneSpec : ChangeSpec := { name := "semaphoreNone", fn := fun _ => fun
  | [d1, d2, d3] => { results := [.lit (.bool true)], args := [d1, d2, d3] }
  | _ => none }
def semaphoreNoneRow : OpenClaim := { program := "ytddifejdkiemgaa", sum := "e51b44c1677c3a2a609e2034a5246181bfa29cc31ee2c04f6f4cb4226545470a", func := "aqueduct/aqueductlaw35.SemaphoreNone", spec := "semaphoreNone", inPlace := ["maps.clone"], unfollowed := true, recurses := true, apart := false }
def SemaphoreNoneSaid : Prop := semaphoreNoneRow.holds Try.pinned (OpenSpec.ofChange semaphoreNoneSpec)

/-- ITS FALSE NEIGHBOUR: 'it returns false'. Refute it at one input. -/
def semaphoreNoneWrong : ChangeSpec := { name := "semaphoreNone", fn := fun _ => fun
  | [d1, d2, d3] => { results := [.lit (.bool false)], args := [d1, d2, d3] }
  | _ => none }
def SemaphoreNoneWrongFalsely : Prop := semaphoreNoneRow.holds Try.pinned (OpenSpec.ofChange semaphoreNoneWrong)

/- THE SECOND FORM. 'bulk': how many values and letters a reading holds, each counted each time it is reached (what is shared counts as often as it is met; a slice's spare places count too). A statement '..UptoSaid' is the law's where the arguments, and the package variables that the reading takes, are together of bulk at most 1048576: NARROWER than '..Said'. Prove '..Said' where nothing that the law and all that it calls make is longer than what came in: it says more and counts as full. Else prove '..UptoSaid'. A law counts once. -/
mutual
def uptoBulk {H : Type} : DataW H → Nat
  | .lit (.string bytes) => bytes.length + 1
  | .lit _ => 1
  | .nil => 1
  | .ptr d => uptoBulk d + 1
  | .slice elems spare => uptoBulkAll elems + uptoBulkAll spare + 1
  | .agg parts => uptoBulkAll parts + 1
  | .iface _ d => uptoBulk d + 1
  | .map entries => uptoBulkEntries entries + 1
  | .held _ => 1
def uptoBulkAll {H : Type} : List (DataW H) → Nat
  | [] => 0
  | d :: r => uptoBulk d + uptoBulkAll r
def uptoBulkEntries {H : Type} : List (Lit × DataW H) → Nat
  | [] => 0
  | x :: r => uptoBulkEntry x + uptoBulkEntries r
def uptoBulkEntry {H : Type} : Lit × DataW H → Nat
  | (.string bytes, d) => bytes.length + uptoBulk d + 1
  | (_, d) => uptoBulk d + 1
 end
def uptoSmall : (H : Type) → List (DataW H) → Bool := fun _ ds => decide (uptoBulkAll ds ≤ 1048576)
def OpenSpec.upto (s : _root_.Go.ChangeSpec) : _root_.Go.OpenSpec := { _root_.Go.OpenSpec.ofChange s with cond := some uptoSmall }

/-- 'aqueductlaw18.BacklogNew', WHERE WHAT IT READS IS OF BULK AT MOST 1048576: true; the input reads as it did. -/
def backlogNewUptoRow : OpenClaim := { program := "ytddifejdkiemgaa", sum := "e51b44c1677c3a2a609e2034a5246181bfa29cc31ee2c04f6f4cb4226545470a", func := "aqueduct/aqueductlaw18.BacklogNew", spec := "backlogNew", inPlace := ["maps.clone"], unfollowed := true, recurses := true, apart := false, narrowed := true }
def BacklogNewUptoSaid : Prop := backlogNewUptoRow.holds Try.pinned (OpenSpec.upto backlogNewSpec)

/-- 'aqueductlaw18.BacklogFull', WHERE WHAT IT READS IS OF BULK AT MOST 1048576: true; the input reads as it did. -/
def backlogFullUptoRow : OpenClaim := { program := "ytddifejdkiemgaa", sum := "e51b44c1677c3a2a609e2034a5246181bfa29cc31ee2c04f6f4cb4226545470a", func := "aqueduct/aqueductlaw18.BacklogFull", spec := "backlogFull", inPlace := ["maps.clone"], unfollowed := true, recurses := true, apart := false, narrowed := true }
def BacklogFullUptoSaid : Prop := backlogFullUptoRow.holds Try.pinned (OpenSpec.upto backlogFullSpec)

/-- 'aqueductlaw18.BacklogHolds', WHERE WHAT IT READS IS OF BULK AT MOST 1048576: true; the input reads as it did. -/
def backlogHoldsUptoRow : OpenClaim := { program := "ytddifejdkiemgaa", sum := "e51b44c1677c3a2a609e2034a5246181bfa29cc31ee2c04f6f4cb4226545470a", func := "aqueduct/aqueductlaw18.BacklogHolds", spec := "backlogHolds", inPlace := ["maps.clone"], unfollowed := true, recurses := true, apart := false, narrowed := true }
def BacklogHoldsUptoSaid : Prop := backlogHoldsUptoRow.holds Try.pinned (OpenSpec.upto backlogHoldsSpec)

/-- 'aqueductlaw18.BacklogPlays', WHERE WHAT IT READS IS OF BULK AT MOST 1048576: true; the input reads as it did. -/
def backlogPlaysUptoRow : OpenClaim := { program := "ytddifejdkiemgaa", sum := "e51b44c1677c3a2a609e2034a5246181bfa29cc31ee2c04f6f4cb4226545470a", func := "aqueduct/aqueductlaw18.BacklogPlays", spec := "backlogPlays", inPlace := ["maps.clone"], unfollowed := true, recurses := true, apart := false, narrowed := true }
def BacklogPlaysUptoSaid : Prop := backlogPlaysUptoRow.holds Try.pinned (OpenSpec.upto backlogPlaysSpec)

/-- 'aqueductlaw18.BacklogNone', WHERE WHAT IT READS IS OF BULK AT MOST 1048576: true; the input reads as it did. -/
def backlogNoneUptoRow : OpenClaim := { program := "ytddifejdkiemgaa", sum := "e51b44c1677c3a2a609e2034a5246181bfa29cc31ee2c04f6f4cb4226545470a", func := "aqueduct/aqueductlaw18.BacklogNone", spec := "backlogNone", inPlace := ["maps.clone"], unfollowed := true, recurses := true, apart := false, narrowed := true }
def BacklogNoneUptoSaid : Prop := backlogNoneUptoRow.holds Try.pinned (OpenSpec.upto backlogNoneSpec)

/-- 'aqueductlaw35.SemaphoreNew', WHERE WHAT IT READS IS OF BULK AT MOST 1048576: true; the input reads as it did. -/
def semaphoreNewUptoRow : OpenClaim := { program := "ytddifejdkiemgaa", sum := "e51b44c1677c3a2a609e2034a5246181bfa29cc31ee2c04f6f4cb4226545470a", func := "aqueduct/aqueductlaw35.SemaphoreNew", spec := "semaphoreNew", inPlace := ["maps.clone"], unfollowed := true, recurses := true, apart := false, narrowed := true }
def SemaphoreNewUptoSaid : Prop := semaphoreNewUptoRow.holds Try.pinned (OpenSpec.upto semaphoreNewSpec)

/-- 'aqueductlaw35.SemaphorePlays', WHERE WHAT IT READS IS OF BULK AT MOST 1048576: true; the input reads as it did. -/
def semaphorePlaysUptoRow : OpenClaim := { program := "ytddifejdkiemgaa", sum := "e51b44c1677c3a2a609e2034a5246181bfa29cc31ee2c04f6f4cb4226545470a", func := "aqueduct/aqueductlaw35.SemaphorePlays", spec := "semaphorePlays", inPlace := ["maps.clone"], unfollowed := true, recurses := true, apart := false, narrowed := true }
def SemaphorePlaysUptoSaid : Prop := semaphorePlaysUptoRow.holds Try.pinned (OpenSpec.upto semaphorePlaysSpec)

/-- 'aqueductlaw35.SemaphoreHolds', WHERE WHAT IT READS IS OF BULK AT MOST 1048576: true; the input reads as it did. -/
def semaphoreHoldsUptoRow : OpenClaim := { program := "ytddifejdkiemgaa", sum := "e51b44c1677c3a2a609e2034a5246181bfa29cc31ee2c04f6f4cb4226545470a", func := "aqueduct/aqueductlaw35.SemaphoreHolds", spec := "semaphoreHolds", inPlace := ["maps.clone"], unfollowed := true, recurses := true, apart := false, narrowed := true }
def SemaphoreHoldsUptoSaid : Prop := semaphoreHoldsUptoRow.holds Try.pinned (OpenSpec.upto semaphoreHoldsSpec)

/-- 'aqueductlaw35.SemaphoreCopies', WHERE WHAT IT READS IS OF BULK AT MOST 1048576: true; the input reads as it did. -/
def semaphoreCopiesUptoRow : OpenClaim := { program := "ytddifejdkiemgaa", sum := "e51b44c1677c3a2a609e2034a5246181bfa29cc31ee2c04f6f4cb4226545470a", func := "aqueduct/aqueductlaw35.SemaphoreCopies", spec := "semaphoreCopies", inPlace := ["maps.clone"], unfollowed := true, recurses := true, apart := false, narrowed := true }
def SemaphoreCopiesUptoSaid : Prop := semaphoreCopiesUptoRow.holds Try.pinned (OpenSpec.upto semaphoreCopiesSpec)

/-- 'aqueductlaw35.SemaphoreNone', WHERE WHAT IT READS IS OF BULK AT MOST 1048576: true; the input reads as it did. -/
def semaphoreNoneUptoRow : OpenClaim := { program := "ytddifejdkiemgaa", sum := "e51b44c1677c3a2a609e2034a5246181bfa29cc31ee2c04f6f4cb4226545470a", func := "aqueduct/aqueductlaw35.SemaphoreNone", spec := "semaphoreNone", inPlace := ["maps.clone"], unfollowed := true, recurses := true, apart := false, narrowed := true }
def SemaphoreNoneUptoSaid : Prop := semaphoreNoneUptoRow.holds Try.pinned (OpenSpec.upto semaphoreNoneSpec)

end Rows
end Go.Proofs.Ytddifejdkiemgaa
