/-
  No cell of these rows narrows 'for every input' (looked for: loops, veiled, ifaces, maps, wideKeys, modest, calm, conditions, laid).
  DERIVED. THE GIVEN ROWS OF THIS SEAT. 11 by the template 'for every input the law returns true; each argument reads behind the call as it read before'; 0 by the template 'total and deterministic' (their statements: YtenijlfcfmhmkaaTotals.lean).
  GIVEN WITH THE SEED: the statements are not yours to turn. If you find one false, say at which input.
  Laid BY PROGRAM, IN A SANDBOX (cutbox-rows.mjs): the forced cells as the released guide's own fill.sh prints them over the translation b144f7706445756c… (all of the seat's roots in one cut). By AI agents, Wed Nov 11 2026. No macro, syntax, notation, axiom, sorry.
-/
import Derived.Test.YtenijlfcfmhmkaaChecked
import GoSem.Claim
import GoSem.ClaimJoined
import GoSem.ClaimMapViews
import Derived.JoinedTies
import Derived.KernelRfl
namespace Go.Proofs.Ytenijlfcfmhmkaa
/- THE CELL 'sum', in the pinned program and in every row, IS THE sha256 OF THE DUMP (.gsa) THAT YtenijlfcfmhmkaaProg.lean LOADS. Nothing in Lean hashes anything: it is a label: what it is worth is what the hold of that sum in a sandbox is worth. -/
noncomputable def Try.pinned : Pinned := { name := "ytenijlfcfmhmkaa", sum := "b144f7706445756c20c3eb203115ec990ff01ef427b9207b0a508d9ff5dcb4c5", checked := Try.checked }
namespace Rows
def none {H : Type} : Left H := { results := [], args := [] }

/-- 'aqueductlaw43.FrameAlls': WHATEVER THE INPUT: true; the input reads as it did. -/
def frameAllsSpec : ChangeSpec := { name := "frameAlls", fn := fun _ => fun
  | [d1, d2, d3, d4, d5] => { results := [.lit (.bool true)], args := [d1, d2, d3, d4, d5] }
  | _ => none }
def frameAllsRow : OpenClaim := { program := "ytenijlfcfmhmkaa", sum := "b144f7706445756c20c3eb203115ec990ff01ef427b9207b0a508d9ff5dcb4c5", func := "aqueduct/aqueductlaw43.FrameAlls", spec := "frameAlls", inPlace := ["internal/bytealg.MakeNoZero"], apart := false }
def FrameAllsSaid : Prop := frameAllsRow.holds Try.pinned (OpenSpec.ofChange frameAllsSpec)

/-- ITS FALSE NEIGHBOUR: 'it returns false'. Refute it at one input. -/
def frameAllsWrong : ChangeSpec := { name := "frameAlls", fn := fun _ => fun
  | [d1, d2, d3, d4, d5] => { results := [.lit (.bool false)], args := [d1, d2, d3, d4, d5] }
  | _ => none }
def FrameAllsWrongFalsely : Prop := frameAllsRow.holds Try.pinned (OpenSpec.ofChange frameAllsWrong)

/-- 'aqueductlaw43.FrameEncodes': WHATEVER THE INPUT: true; the input reads as it did. -/
def frameEncodesSpec : ChangeSpec := { name := "frameEncodes", fn := fun _ => fun
  | [d] => { results := [.lit (.bool true)], args := [d] }
  | _ => none }
def frameEncodesRow : OpenClaim := { program := "ytenijlfcfmhmkaa", sum := "b144f7706445756c20c3eb203115ec990ff01ef427b9207b0a508d9ff5dcb4c5", func := "aqueduct/aqueductlaw43.FrameEncodes", spec := "frameEncodes", inPlace := ["internal/bytealg.MakeNoZero"], apart := false }
def FrameEncodesSaid : Prop := frameEncodesRow.holds Try.pinned (OpenSpec.ofChange frameEncodesSpec)

/-- ITS FALSE NEIGHBOUR: 'it returns false'. Refute it at one input. -/
def frameEncodesWrong : ChangeSpec := { name := "frameEncodes", fn := fun _ => fun
  | [d] => { results := [.lit (.bool false)], args := [d] }
  | _ => none }
def FrameEncodesWrongFalsely : Prop := frameEncodesRow.holds Try.pinned (OpenSpec.ofChange frameEncodesWrong)

/-- 'aqueductlaw06.FifoPlays': WHATEVER THE INPUT: true; the input reads as it did. -/
def fifoPlaysSpec : ChangeSpec := { name := "fifoPlays", fn := fun _ => fun
  | [d] => { results := [.lit (.bool true)], args := [d] }
  | _ => none }
def fifoPlaysRow : OpenClaim := { program := "ytenijlfcfmhmkaa", sum := "b144f7706445756c20c3eb203115ec990ff01ef427b9207b0a508d9ff5dcb4c5", func := "aqueduct/aqueductlaw06.FifoPlays", spec := "fifoPlays", inPlace := ["maps.clone"], unfollowed := true, recurses := true, apart := false }
def FifoPlaysSaid : Prop := fifoPlaysRow.holds Try.pinned (OpenSpec.ofChange fifoPlaysSpec)

/-- ITS FALSE NEIGHBOUR: 'it returns false'. Refute it at one input. -/
def fifoPlaysWrong : ChangeSpec := { name := "fifoPlays", fn := fun _ => fun
  | [d] => { results := [.lit (.bool false)], args := [d] }
  | _ => none }
def FifoPlaysWrongFalsely : Prop := fifoPlaysRow.holds Try.pinned (OpenSpec.ofChange fifoPlaysWrong)

/-- 'aqueductlaw06.FifoIterates': WHATEVER THE INPUT: true; the input reads as it did. -/
def fifoIteratesSpec : ChangeSpec := { name := "fifoIterates", fn := fun _ => fun
  | [d1, d2] => { results := [.lit (.bool true)], args := [d1, d2] }
  | _ => none }
def fifoIteratesRow : OpenClaim := { program := "ytenijlfcfmhmkaa", sum := "b144f7706445756c20c3eb203115ec990ff01ef427b9207b0a508d9ff5dcb4c5", func := "aqueduct/aqueductlaw06.FifoIterates", spec := "fifoIterates", inPlace := ["maps.clone"], unfollowed := true, recurses := true, apart := false }
def FifoIteratesSaid : Prop := fifoIteratesRow.holds Try.pinned (OpenSpec.ofChange fifoIteratesSpec)

/-- ITS FALSE NEIGHBOUR: 'it returns false'. Refute it at one input. -/
def fifoIteratesWrong : ChangeSpec := { name := "fifoIterates", fn := fun _ => fun
  | [d1, d2] => { results := [.lit (.bool false)], args := [d1, d2] }
  | _ => none }
def FifoIteratesWrongFalsely : Prop := fifoIteratesRow.holds Try.pinned (OpenSpec.ofChange fifoIteratesWrong)

/-- 'aqueductlaw06.FifoFulls': WHATEVER THE INPUT: true; the input reads as it did. -/
def fifoFullsSpec : ChangeSpec := { name := "fifoFulls", fn := fun _ => fun
  | [d1, d2] => { results := [.lit (.bool true)], args := [d1, d2] }
  | _ => none }
def fifoFullsRow : OpenClaim := { program := "ytenijlfcfmhmkaa", sum := "b144f7706445756c20c3eb203115ec990ff01ef427b9207b0a508d9ff5dcb4c5", func := "aqueduct/aqueductlaw06.FifoFulls", spec := "fifoFulls", inPlace := ["maps.clone"], unfollowed := true, recurses := true, apart := false }
def FifoFullsSaid : Prop := fifoFullsRow.holds Try.pinned (OpenSpec.ofChange fifoFullsSpec)

/-- ITS FALSE NEIGHBOUR: 'it returns false'. Refute it at one input. -/
def fifoFullsWrong : ChangeSpec := { name := "fifoFulls", fn := fun _ => fun
  | [d1, d2] => { results := [.lit (.bool false)], args := [d1, d2] }
  | _ => none }
def FifoFullsWrongFalsely : Prop := fifoFullsRow.holds Try.pinned (OpenSpec.ofChange fifoFullsWrong)

/-- 'aqueductlaw06.FifoNil': WHATEVER THE INPUT: true; the input reads as it did. -/
def fifoNilSpec : ChangeSpec := { name := "fifoNil", fn := fun _ => fun
  | [d1, d2] => { results := [.lit (.bool true)], args := [d1, d2] }
  | _ => none }
def fifoNilRow : OpenClaim := { program := "ytenijlfcfmhmkaa", sum := "b144f7706445756c20c3eb203115ec990ff01ef427b9207b0a508d9ff5dcb4c5", func := "aqueduct/aqueductlaw06.FifoNil", spec := "fifoNil", inPlace := ["maps.clone"], unfollowed := true, recurses := true, apart := false }
def FifoNilSaid : Prop := fifoNilRow.holds Try.pinned (OpenSpec.ofChange fifoNilSpec)

/-- ITS FALSE NEIGHBOUR: 'it returns false'. Refute it at one input. -/
def fifoNilWrong : ChangeSpec := { name := "fifoNil", fn := fun _ => fun
  | [d1, d2] => { results := [.lit (.bool false)], args := [d1, d2] }
  | _ => none }
def FifoNilWrongFalsely : Prop := fifoNilRow.holds Try.pinned (OpenSpec.ofChange fifoNilWrong)

/-- 'aqueductlaw06.FifoHolds': WHATEVER THE INPUT: true; the input reads as it did. -/
def fifoHoldsSpec : ChangeSpec := { name := "fifoHolds", fn := fun _ => fun
  | [d] => { results := [.lit (.bool true)], args := [d] }
  | _ => none }
def fifoHoldsRow : OpenClaim := { program := "ytenijlfcfmhmkaa", sum := "b144f7706445756c20c3eb203115ec990ff01ef427b9207b0a508d9ff5dcb4c5", func := "aqueduct/aqueductlaw06.FifoHolds", spec := "fifoHolds", inPlace := ["maps.clone"], unfollowed := true, recurses := true, apart := false }
def FifoHoldsSaid : Prop := fifoHoldsRow.holds Try.pinned (OpenSpec.ofChange fifoHoldsSpec)

/-- ITS FALSE NEIGHBOUR: 'it returns false'. Refute it at one input. -/
def fifoHoldsWrong : ChangeSpec := { name := "fifoHolds", fn := fun _ => fun
  | [d] => { results := [.lit (.bool false)], args := [d] }
  | _ => none }
def FifoHoldsWrongFalsely : Prop := fifoHoldsRow.holds Try.pinned (OpenSpec.ofChange fifoHoldsWrong)

/-- 'aqueductlaw43.FrameFulls': WHATEVER THE INPUT: true; the input reads as it did. -/
def frameFullsSpec : ChangeSpec := { name := "frameFulls", fn := fun _ => fun
  | [d1, d2] => { results := [.lit (.bool true)], args := [d1, d2] }
  | _ => none }
def frameFullsRow : OpenClaim := { program := "ytenijlfcfmhmkaa", sum := "b144f7706445756c20c3eb203115ec990ff01ef427b9207b0a508d9ff5dcb4c5", func := "aqueduct/aqueductlaw43.FrameFulls", spec := "frameFulls", inPlace := ["internal/bytealg.MakeNoZero"], apart := false }
def FrameFullsSaid : Prop := frameFullsRow.holds Try.pinned (OpenSpec.ofChange frameFullsSpec)

/-- ITS FALSE NEIGHBOUR: 'it returns false'. Refute it at one input. -/
def frameFullsWrong : ChangeSpec := { name := "frameFulls", fn := fun _ => fun
  | [d1, d2] => { results := [.lit (.bool false)], args := [d1, d2] }
  | _ => none }
def FrameFullsWrongFalsely : Prop := frameFullsRow.holds Try.pinned (OpenSpec.ofChange frameFullsWrong)

/-- 'aqueductlaw43.FrameHolds': WHATEVER THE INPUT: true; the input reads as it did. -/
def frameHoldsSpec : ChangeSpec := { name := "frameHolds", fn := fun _ => fun
  | [d1, d2, d3] => { results := [.lit (.bool true)], args := [d1, d2, d3] }
  | _ => none }
def frameHoldsRow : OpenClaim := { program := "ytenijlfcfmhmkaa", sum := "b144f7706445756c20c3eb203115ec990ff01ef427b9207b0a508d9ff5dcb4c5", func := "aqueduct/aqueductlaw43.FrameHolds", spec := "frameHolds", inPlace := ["internal/bytealg.MakeNoZero"], apart := false }
def FrameHoldsSaid : Prop := frameHoldsRow.holds Try.pinned (OpenSpec.ofChange frameHoldsSpec)

/-- ITS FALSE NEIGHBOUR: 'it returns false'. Refute it at one input. -/
def frameHoldsWrong : ChangeSpec := { name := "frameHolds", fn := fun _ => fun
  | [d1, d2, d3] => { results := [.lit (.bool false)], args := [d1, d2, d3] }
  | _ => none }
def FrameHoldsWrongFalsely : Prop := frameHoldsRow.holds Try.pinned (OpenSpec.ofChange frameHoldsWrong)

/-- 'aqueductlaw43.FrameReads': WHATEVER THE INPUT: true; the input reads as it did. -/
def frameReadsSpec : ChangeSpec := { name := "frameReads", fn := fun _ => fun
  | [d] => { results := [.lit (.bool true)], args := [d] }
  | _ => none }
def frameReadsRow : OpenClaim := { program := "ytenijlfcfmhmkaa", sum := "b144f7706445756c20c3eb203115ec990ff01ef427b9207b0a508d9ff5dcb4c5", func := "aqueduct/aqueductlaw43.FrameReads", spec := "frameReads", inPlace := ["internal/bytealg.MakeNoZero"], apart := false }
def FrameReadsSaid : Prop := frameReadsRow.holds Try.pinned (OpenSpec.ofChange frameReadsSpec)

/-- ITS FALSE NEIGHBOUR: 'it returns false'. Refute it at one input. -/
def frameReadsWrong : ChangeSpec := { name := "frameReads", fn := fun _ => fun
  | [d] => { results := [.lit (.bool false)], args := [d] }
  | _ => none }
def FrameReadsWrongFalsely : Prop := frameReadsRow.holds Try.pinned (OpenSpec.ofChange frameReadsWrong)

/-- 'aqueductlaw43.FrameNone': WHATEVER THE INPUT: true; the input reads as it did. -/
def frameNoneSpec : ChangeSpec := { name := "frameNone", fn := fun _ => fun
  | [d] => { results := [.lit (.bool true)], args := [d] }
  | _ => none }
def frameNoneRow : OpenClaim := { program := "ytenijlfcfmhmkaa", sum := "b144f7706445756c20c3eb203115ec990ff01ef427b9207b0a508d9ff5dcb4c5", func := "aqueduct/aqueductlaw43.FrameNone", spec := "frameNone", inPlace := ["internal/bytealg.MakeNoZero"], apart := false }
def FrameNoneSaid : Prop := frameNoneRow.holds Try.pinned (OpenSpec.ofChange frameNoneSpec)

/-- ITS FALSE NEIGHBOUR: 'it returns false'. Refute it at one input. -/
def frameNoneWrong : ChangeSpec := { name := "frameNone", fn := fun _ => fun
  | [d] => { results := [.lit (.bool false)], args := [d] }
  | _ => none }
def FrameNoneWrongFalsely : Prop := frameNoneRow.holds Try.pinned (OpenSpec.ofChange frameNoneWrong)

/- THE SECOND FORM. 'bulk': how many values and letters a reading holds, each counted each time it is reached (what is shared counts as often as it is met; a slice's spare places count too). A statement '..UptoSaid' is the law's where the arguments, and the package variables that the reading takes, are together of bulk at most 1048576: NARROWER than '..Said'. Prove '..Said' where nothing that the law and all that it calls make is longer than what came in: it says more and counts as full. Else prove '..UptoSaid'. A law counts once. -/
mutual
def uptoBulk {H : Type} : DataW H → Nat
  | .lit (.string bytes) => bytes.length + 1
  | .lit _ => 1
  | .nil => 1
  | .ptr d => uptoBulk d + 1
  | .slice elems spare => uptoBulkAll elems + uptoBulkAll spare + 1
  | .agg parts => uptoBulkAll parts + 1
  | .iface _ d => uptoBulk d + 1
  | .map entries => uptoBulkEntries entries + 1
  | .held _ => 1
def uptoBulkAll {H : Type} : List (DataW H) → Nat
  | [] => 0
  | d :: r => uptoBulk d + uptoBulkAll r
def uptoBulkEntries {H : Type} : List (Lit × DataW H) → Nat
  | [] => 0
  | x :: r => uptoBulkEntry x + uptoBulkEntries r
def uptoBulkEntry {H : Type} : Lit × DataW H → Nat
  | (.string bytes, d) => bytes.length + uptoBulk d + 1
  | (_, d) => uptoBulk d + 1
 end
def uptoSmall : (H : Type) → List (DataW H) → Bool := fun _ ds => decide (uptoBulkAll ds ≤ 1048576)
def OpenSpec.upto (s : _root_.Go.ChangeSpec) : _root_.Go.OpenSpec := { _root_.Go.OpenSpec.ofChange s with cond := some uptoSmall }

/-- 'aqueductlaw43.FrameAlls', WHERE WHAT IT READS IS OF BULK AT MOST 1048576: true; the input reads as it did. -/
def frameAllsUptoRow : OpenClaim := { program := "ytenijlfcfmhmkaa", sum := "b144f7706445756c20c3eb203115ec990ff01ef427b9207b0a508d9ff5dcb4c5", func := "aqueduct/aqueductlaw43.FrameAlls", spec := "frameAlls", inPlace := ["internal/bytealg.MakeNoZero"], apart := false, narrowed := true }
def FrameAllsUptoSaid : Prop := frameAllsUptoRow.holds Try.pinned (OpenSpec.upto frameAllsSpec)

/-- 'aqueductlaw43.FrameEncodes', WHERE WHAT IT READS IS OF BULK AT MOST 1048576: true; the input reads as it did. -/
def frameEncodesUptoRow : OpenClaim := { program := "ytenijlfcfmhmkaa", sum := "b144f7706445756c20c3eb203115ec990ff01ef427b9207b0a508d9ff5dcb4c5", func := "aqueduct/aqueductlaw43.FrameEncodes", spec := "frameEncodes", inPlace := ["internal/bytealg.MakeNoZero"], apart := false, narrowed := true }
def FrameEncodesUptoSaid : Prop := frameEncodesUptoRow.holds Try.pinned (OpenSpec.upto frameEncodesSpec)

/-- 'aqueductlaw06.FifoPlays', WHERE WHAT IT READS IS OF BULK AT MOST 1048576: true; the input reads as it did. -/
def fifoPlaysUptoRow : OpenClaim := { program := "ytenijlfcfmhmkaa", sum := "b144f7706445756c20c3eb203115ec990ff01ef427b9207b0a508d9ff5dcb4c5", func := "aqueduct/aqueductlaw06.FifoPlays", spec := "fifoPlays", inPlace := ["maps.clone"], unfollowed := true, recurses := true, apart := false, narrowed := true }
def FifoPlaysUptoSaid : Prop := fifoPlaysUptoRow.holds Try.pinned (OpenSpec.upto fifoPlaysSpec)

/-- 'aqueductlaw06.FifoIterates', WHERE WHAT IT READS IS OF BULK AT MOST 1048576: true; the input reads as it did. -/
def fifoIteratesUptoRow : OpenClaim := { program := "ytenijlfcfmhmkaa", sum := "b144f7706445756c20c3eb203115ec990ff01ef427b9207b0a508d9ff5dcb4c5", func := "aqueduct/aqueductlaw06.FifoIterates", spec := "fifoIterates", inPlace := ["maps.clone"], unfollowed := true, recurses := true, apart := false, narrowed := true }
def FifoIteratesUptoSaid : Prop := fifoIteratesUptoRow.holds Try.pinned (OpenSpec.upto fifoIteratesSpec)

/-- 'aqueductlaw06.FifoFulls', WHERE WHAT IT READS IS OF BULK AT MOST 1048576: true; the input reads as it did. -/
def fifoFullsUptoRow : OpenClaim := { program := "ytenijlfcfmhmkaa", sum := "b144f7706445756c20c3eb203115ec990ff01ef427b9207b0a508d9ff5dcb4c5", func := "aqueduct/aqueductlaw06.FifoFulls", spec := "fifoFulls", inPlace := ["maps.clone"], unfollowed := true, recurses := true, apart := false, narrowed := true }
def FifoFullsUptoSaid : Prop := fifoFullsUptoRow.holds Try.pinned (OpenSpec.upto fifoFullsSpec)

/-- 'aqueductlaw06.FifoNil', WHERE WHAT IT READS IS OF BULK AT MOST 1048576: true; the input reads as it did. -/
def fifoNilUptoRow : OpenClaim := { program := "ytenijlfcfmhmkaa", sum := "b144f7706445756c20c3eb203115ec990ff01ef427b9207b0a508d9ff5dcb4c5", func := "aqueduct/aqueductlaw06.FifoNil", spec := "fifoNil", inPlace := ["maps.clone"], unfollowed := true, recurses := true, apart := false, narrowed := true }
def FifoNilUptoSaid : Prop := fifoNilUptoRow.holds Try.pinned (OpenSpec.upto fifoNilSpec)

/-- 'aqueductlaw06.FifoHolds', WHERE WHAT IT READS IS OF BULK AT MOST 1048576: true; the input reads as it did. -/
def fifoHoldsUptoRow : OpenClaim := { program := "ytenijlfcfmhmkaa", sum := "b144f7706445756c20c3eb203115ec990ff01ef427b9207b0a508d9ff5dcb4c5", func := "aqueduct/aqueductlaw06.FifoHolds", spec := "fifoHolds", inPlace := ["maps.clone"], unfollowed := true, recurses := true, apart := false, narrowed := true }
def FifoHoldsUptoSaid : Prop := fifoHoldsUptoRow.holds Try.pinned (OpenSpec.upto fifoHoldsSpec)

/-- 'aqueductlaw43.FrameFulls', WHERE WHAT IT READS IS OF BULK AT MOST 1048576: true; the input reads as it did. -/
def frameFullsUptoRow : OpenClaim := { program := "ytenijlfcfmhmkaa", sum := "b144f7706445756c20c3eb203115ec990ff01ef427b9207b0a508d9ff5dcb4c5", func := "aqueduct/aqueductlaw43.FrameFulls", spec := "frameFulls", inPlace := ["internal/bytealg.MakeNoZero"], apart := false, narrowed := true }
def FrameFullsUptoSaid : Prop := frameFullsUptoRow.holds Try.pinned (OpenSpec.upto frameFullsSpec)

/-- 'aqueductlaw43.FrameHolds', WHERE WHAT IT READS IS OF BULK AT MOST 1048576: true; the input reads as it did. -/
def frameHoldsUptoRow : OpenClaim := { program := "ytenijlfcfmhmkaa", sum := "b144f7706445756c20c3eb203115ec990ff01ef427b9207b0a508d9ff5dcb4c5", func := "aqueduct/aqueductlaw43.FrameHolds", spec := "frameHolds", inPlace := ["internal/bytealg.MakeNoZero"], apart := false, narrowed := true }
def FrameHoldsUptoSaid : Prop := frameHoldsUptoRow.holds Try.pinned (OpenSpec.upto frameHoldsSpec)

/-- 'aqueductlaw43.FrameReads', WHERE WHAT IT READS IS OF BULK AT MOST 1048576: true; the input reads as it did. -/
def frameReadsUptoRow : OpenClaim := { program := "ytenijlfcfmhmkaa", sum := "b144f7706445756c20c3eb203115ec990ff01ef427b9207b0a508d9ff5dcb4c5", func := "aqueduct/aqueductlaw43.FrameReads", spec := "frameReads", inPlace := ["internal/bytealg.MakeNoZero"], apart := false, narrowed := true }
def FrameReadsUptoSaid : Prop := frameReadsUptoRow.holds Try.pinned (OpenSpec.upto frameReadsSpec)

/-- 'aqueductlaw43.FrameNone', WHERE WHAT IT READS IS OF BULK AT MOST 1048576: true; the input reads as it did. -/
def frameNoneUptoRow : OpenClaim := { program := "ytenijlfcfmhmkaa", sum := "b144f7706445756c20c3eb203115ec990ff01ef427b9207b0a508d9ff5dcb4c5", func := "aqueduct/aqueductlaw43.FrameNone", spec := "frameNone", inPlace := ["internal/bytealg.MakeNoZero"], apart := false, narrowed := true }
def FrameNoneUptoSaid : Prop := frameNoneUptoRow.holds Try.pinned (OpenSpec.upto frameNoneSpec)

end Rows
end Go.Proofs.Ytenijlfcfmhmkaa
