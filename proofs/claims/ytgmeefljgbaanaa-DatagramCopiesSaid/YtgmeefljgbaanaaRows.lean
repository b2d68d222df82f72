/-
  No cell of these rows narrows 'for every input' (looked for: loops, veiled, ifaces, maps, wideKeys, modest, calm, conditions, laid).
  DERIVED. THE GIVEN ROWS OF THIS SEAT. 5 by the template 'for every input the law returns true; each argument reads behind the call as it read before'; 0 by the template 'total and deterministic' (their statements: YtgmeefljgbaanaaTotals.lean).
  GIVEN WITH THE SEED: the statements are not yours to turn. If you find one false, say at which input.
  Laid BY PROGRAM, IN A SANDBOX (cutbox-rows.mjs): the forced cells as the released guide's own fill.sh prints them over the translation ac45470168ec7f84… (all of the seat's roots in one cut). By AI agents, Wed Nov 11 2026. No macro, syntax, notation, axiom, sorry.
-/
import Derived.Test.YtgmeefljgbaanaaChecked
import GoSem.Claim
import GoSem.ClaimJoined
import GoSem.ClaimMapViews
import Derived.JoinedTies
import Derived.KernelRfl
namespace Go.Proofs.Ytgmeefljgbaanaa
/- THE CELL 'sum', in the pinned program and in every row, IS THE sha256 OF THE DUMP (.gsa) THAT YtgmeefljgbaanaaProg.lean LOADS. Nothing in Lean hashes anything: it is a label: what it is worth is what the hold of that sum in a sandbox is worth. -/
noncomputable def Try.pinned : Pinned := { name := "ytgmeefljgbaanaa", sum := "ac45470168ec7f841ce01cb0620940ad44fd10b235f18917a1b15c937210390f", checked := Try.checked }
namespace Rows
def none {H : Type} : Left H := { results := [], args := [] }

/-- 'aqueductlaw34.DatagramFull': WHATEVER THE INPUT: true; the input reads as it did. -/
def datagramFullSpec : ChangeSpec := { name := "datagramFull", fn := fun _ => fun
  | [d] => { results := [.lit (.bool true)], args := [d] }
  | _ => none }
def datagramFullRow : OpenClaim := { program := "ytgmeefljgbaanaa", sum := "ac45470168ec7f841ce01cb0620940ad44fd10b235f18917a1b15c937210390f", func := "aqueduct/aqueductlaw34.DatagramFull", spec := "datagramFull", inPlace := ["internal/bytealg.abigen_runtime_cmpstring", "maps.clone"], unfollowed := true, recurses := true, apart := false }
def DatagramFullSaid : Prop := datagramFullRow.holds Try.pinned (OpenSpec.ofChange datagramFullSpec)

/-- ITS FALSE NEIGHBOUR: 'it returns false'. Refute it at one input. -/
def datagramFullWrong : ChangeSpec := { name := "datagramFull", fn := fun _ => fun
  | [d] => { results := [.lit (.bool false)], args := [d] }
  | _ => none }
def DatagramFullWrongFalsely : Prop := datagramFullRow.holds Try.pinned (OpenSpec.ofChange datagramFullWrong)

/-- 'aqueductlaw34.DatagramHolds': WHATEVER THE INPUT: true; the input reads as it did. -/
def datagramHoldsSpec : ChangeSpec := { name := "datagramHolds", fn := fun _ => fun
  | [d1, d2, d3, d4, d5] => { results := [.lit (.bool true)], args := [d1, d2, d3, d4, d5] }
  | _ => none }
def datagramHoldsRow : OpenClaim := { program := "ytgmeefljgbaanaa", sum := "ac45470168ec7f841ce01cb0620940ad44fd10b235f18917a1b15c937210390f", func := "aqueduct/aqueductlaw34.DatagramHolds", spec := "datagramHolds", inPlace := ["internal/bytealg.abigen_runtime_cmpstring", "maps.clone"], unfollowed := true, recurses := true, apart := false }
def DatagramHoldsSaid : Prop := datagramHoldsRow.holds Try.pinned (OpenSpec.ofChange datagramHoldsSpec)

/-- ITS FALSE NEIGHBOUR: 'it returns false'. Refute it at one input. -/
def datagramHoldsWrong : ChangeSpec := { name := "datagramHolds", fn := fun _ => fun
  | [d1, d2, d3, d4, d5] => { results := [.lit (.bool false)], args := [d1, d2, d3, d4, d5] }
  | _ => none }
def DatagramHoldsWrongFalsely : Prop := datagramHoldsRow.holds Try.pinned (OpenSpec.ofChange datagramHoldsWrong)

/-- 'aqueductlaw34.DatagramPlays': WHATEVER THE INPUT: true; the input reads as it did. -/
def datagramPlaysSpec : ChangeSpec := { name := "datagramPlays", fn := fun _ => fun
  | [d1, d2] => { results := [.lit (.bool true)], args := [d1, d2] }
  | _ => none }
def datagramPlaysRow : OpenClaim := { program := "ytgmeefljgbaanaa", sum := "ac45470168ec7f841ce01cb0620940ad44fd10b235f18917a1b15c937210390f", func := "aqueduct/aqueductlaw34.DatagramPlays", spec := "datagramPlays", inPlace := ["internal/bytealg.abigen_runtime_cmpstring", "maps.clone"], unfollowed := true, recurses := true, apart := false }
def DatagramPlaysSaid : Prop := datagramPlaysRow.holds Try.pinned (OpenSpec.ofChange datagramPlaysSpec)

/-- ITS FALSE NEIGHBOUR: 'it returns false'. Refute it at one input. -/
def datagramPlaysWrong : ChangeSpec := { name := "datagramPlays", fn := fun _ => fun
  | [d1, d2] => { results := [.lit (.bool false)], args := [d1, d2] }
  | _ => none }
def DatagramPlaysWrongFalsely : Prop := datagramPlaysRow.holds Try.pinned (OpenSpec.ofChange datagramPlaysWrong)

/-- 'aqueductlaw34.DatagramCopies': WHATEVER THE INPUT: true; the input reads as it did. -/
def datagramCopiesSpec : ChangeSpec := { name := "datagramCopies", fn := fun _ => fun
  | [d1, d2, d3] => { results := [.lit (.bool true)], args := [d1, d2, d3] }
  | _ => none }
def datagramCopiesRow : OpenClaim := { program := "ytgmeefljgbaanaa", sum := "ac45470168ec7f841ce01cb0620940ad44fd10b235f18917a1b15c937210390f", func := "aqueduct/aqueductlaw34.DatagramCopies", spec := "datagramCopies", inPlace := ["internal/bytealg.abigen_runtime_cmpstring", "maps.clone"], unfollowed := true, recurses := true, apart := false }
def DatagramCopiesSaid : Prop := datagramCopiesRow.holds Try.pinned (OpenSpec.ofChange datagramCopiesSpec)

/-- ITS FALSE NEIGHBOUR: 'it returns false'. Refute it at one input. -/
def datagramCopiesWrong : ChangeSpec := { name := "datagramCopies", fn := fun _ => fun
  | [d1, d2, d3] => { results := [.lit (.bool false)], args := [d1, d2, d3] }
  | _ => none }
def DatagramCopiesWrongFalsely : Prop := datagramCopiesRow.holds Try.pinned (OpenSpec.ofChange datagramCopiesWrong)

/-- 'aqueductlaw34.DatagramNone': WHATEVER THE INPUT: true; the input reads as it did. -/
def datagramNoneSpec : ChangeSpec := { name := "datagramNone", fn := fun _ => fun
  | [d] => { results := [.lit (.bool true)], args := [d] }
  | _ => none }
def datagramNoneRow : OpenClaim := { program := "ytgmeefljgbaanaa", sum := "ac45470168ec7f841ce01cb0620940ad44fd10b235f18917a1b15c937210390f", func := "aqueduct/aqueductlaw34.DatagramNone", spec := "datagramNone", inPlace := ["internal/bytealg.abigen_runtime_cmpstring", "maps.clone"], unfollowed := true, recurses := true, apart := false }
def DatagramNoneSaid : Prop := datagramNoneRow.holds Try.pinned (OpenSpec.ofChange datagramNoneSpec)

/-- ITS FALSE NEIGHBOUR: 'it returns false'. Refute it at one input. -/
def datagramNoneWrong : ChangeSpec := { name := "datagramNone", fn := fun _ => fun
  | [d] => { results := [.lit (.bool false)], args := [d] }
  | _ => none }
def DatagramNoneWrongFalsely : Prop := datagramNoneRow.holds Try.pinned (OpenSpec.ofChange datagramNoneWrong)

/- THE SECOND FORM. 'bulk': how many values and letters a reading holds, each counted each time it is reached (what is shared counts as often as it is met; a slice's spare places count too). A statement '..UptoSaid' is the law's where the arguments, and the package variables that the reading takes, are together of bulk at most 1048576: NARROWER than '..Said'. Prove '..Said' where nothing that the law and all that it calls make is longer than what came in: it says more and counts as full. Else prove '..UptoSaid'. A law counts once. -/
mutual
def uptoBulk {H : Type} : DataW H → Nat
  | .lit (.string bytes) => bytes.length + 1
  | .lit _ => 1
  | .nil => 1
  | .ptr d => uptoBulk d + 1
  | .slice elems spare => uptoBulkAll elems + uptoBulkAll spare + 1
  | .agg parts => uptoBulkAll parts + 1
  | .iface _ d => uptoBulk d + 1
  | .map entries => uptoBulkEntries entries + 1
  | .held _ => 1
def uptoBulkAll {H : Type} : List (DataW H) → Nat
  | [] => 0
  | d :: r => uptoBulk d + uptoBulkAll r
def uptoBulkEntries {H : Type} : List (Lit × DataW H) → Nat
  | [] => 0
  | x :: r => uptoBulkEntry x + uptoBulkEntries r
def uptoBulkEntry {H : Type} : Lit × DataW H → Nat
  | (.string bytes, d) => bytes.length + uptoBulk d + 1
  | (_, d) => uptoBulk d + 1
 end
def uptoSmall : (H : Type) → List (DataW H) → Bool := fun _ ds => decide (uptoBulkAll ds ≤ 1048576)
def OpenSpec.upto (s : _root_.Go.ChangeSpec) : _root_.Go.OpenSpec := { _root_.Go.OpenSpec.ofChange s with cond := some uptoSmall }

/-- 'aqueductlaw34.DatagramFull', WHERE WHAT IT READS IS OF BULK AT MOST 1048576: true; the input reads as it did. -/
def datagramFullUptoRow : OpenClaim := { program := "ytgmeefljgbaanaa", sum := "ac45470168ec7f841ce01cb0620940ad44fd10b235f18917a1b15c937210390f", func := "aqueduct/aqueductlaw34.DatagramFull", spec := "datagramFull", inPlace := ["internal/bytealg.abigen_runtime_cmpstring", "maps.clone"], unfollowed := true, recurses := true, apart := false, narrowed := true }
def DatagramFullUptoSaid : Prop := datagramFullUptoRow.holds Try.pinned (OpenSpec.upto datagramFullSpec)

/-- 'aqueductlaw34.DatagramHolds', WHERE WHAT IT READS IS OF BULK AT MOST 1048576: true; the input reads as it did. -/
def datagramHoldsUptoRow : OpenClaim := { program := "ytgmeefljgbaanaa", sum := "ac45470168ec7f841ce01cb0620940ad44fd10b235f18917a1b15c937210390f", func := "aqueduct/aqueductlaw34.DatagramHolds", spec := "datagramHolds", inPlace := ["internal/bytealg.abigen_runtime_cmpstring", "maps.clone"], unfollowed := true, recurses := true, apart := false, narrowed := true }
def DatagramHoldsUptoSaid : Prop := datagramHoldsUptoRow.holds Try.pinned (OpenSpec.upto datagramHoldsSpec)

/-- 'aqueductlaw34.DatagramPlays', WHERE WHAT IT READS IS OF BULK AT MOST 1048576: true; the input reads as it did. -/
def datagramPlaysUptoRow : OpenClaim := { program := "ytgmeefljgbaanaa", sum := "ac45470168ec7f841ce01cb0620940ad44fd10b235f18917a1b15c937210390f", func := "aqueduct/aqueductlaw34.DatagramPlays", spec := "datagramPlays", inPlace := ["internal/bytealg.abigen_runtime_cmpstring", "maps.clone"], unfollowed := true, recurses := true, apart := false, narrowed := true }
def DatagramPlaysUptoSaid : Prop := datagramPlaysUptoRow.holds Try.pinned (OpenSpec.upto datagramPlaysSpec)

/-- 'aqueductlaw34.DatagramCopies', WHERE WHAT IT READS IS OF BULK AT MOST 1048576: true; the input reads as it did. -/
def datagramCopiesUptoRow : OpenClaim := { program := "ytgmeefljgbaanaa", sum := "ac45470168ec7f841ce01cb0620940ad44fd10b235f18917a1b15c937210390f", func := "aqueduct/aqueductlaw34.DatagramCopies", spec := "datagramCopies", inPlace := ["internal/bytealg.abigen_runtime_cmpstring", "maps.clone"], unfollowed := true, recurses := true, apart := false, narrowed := true }
def DatagramCopiesUptoSaid : Prop := datagramCopiesUptoRow.holds Try.pinned (OpenSpec.upto datagramCopiesSpec)

/-- 'aqueductlaw34.DatagramNone', WHERE WHAT IT READS IS OF BULK AT MOST 1048576: true; the input reads as it did. -/
def datagramNoneUptoRow : OpenClaim := { program := "ytgmeefljgbaanaa", sum := "ac45470168ec7f841ce01cb0620940ad44fd10b235f18917a1b15c937210390f", func := "aqueduct/aqueductlaw34.DatagramNone", spec := "datagramNone", inPlace := ["internal/bytealg.abigen_runtime_cmpstring", "maps.clone"], unfollowed := true, recurses := true, apart := false, narrowed := true }
def DatagramNoneUptoSaid : Prop := datagramNoneUptoRow.holds Try.pinned (OpenSpec.upto datagramNoneSpec)

end Rows
end Go.Proofs.Ytgmeefljgbaanaa
