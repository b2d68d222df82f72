/-
  No cell of these rows narrows 'for every input' (looked for: loops, veiled, ifaces, maps, wideKeys, modest, calm, conditions, laid).
  DERIVED. THE GIVEN ROWS OF THIS SEAT. 6 by the template 'for every input the law returns true; each argument reads behind the call as it read before'; 0 by the template 'total and deterministic' (their statements: YtphaaebhgggbaaaTotals.lean).
  GIVEN WITH THE SEED: the statements are not yours to turn. If you find one false, say at which input.
  Laid BY PROGRAM, IN A SANDBOX (cutbox-rows.mjs): the forced cells as the released guide's own fill.sh prints them over the translation 60a145e21d4fd82b… (all of the seat's roots in one cut). By AI agents, Wed Nov 11 2026. No macro, syntax, notation, axiom, sorry.
-/
import Derived.Test.YtphaaebhgggbaaaChecked
import GoSem.Claim
import GoSem.ClaimJoined
import GoSem.ClaimMapViews
import Derived.JoinedTies
import Derived.KernelRfl
namespace Go.Proofs.Ytphaaebhgggbaaa
/- THE CELL 'sum', in the pinned program and in every row, IS THE sha256 OF THE DUMP (.gsa) THAT YtphaaebhgggbaaaProg.lean LOADS. Nothing in Lean hashes anything: it is a label: what it is worth is what the hold of that sum in a sandbox is worth. -/
noncomputable def Try.pinned : Pinned := { name := "ytphaaebhgggbaaa", sum := "60a145e21d4fd82bd30104e90ffa92128d3a526bab7789d65a23fbfab5429b08", checked := Try.checked }
namespace Rows
def none {H : Type} : Left H := { results := [], args := [] }

/-- 'aqueductlaw39.LatchHolds': WHATEVER THE INPUT: true; the input reads as it did. -/
def latchHoldsSpec : ChangeSpec := { name := "latchHolds", fn := fun _ => fun
  | [d1, d2] => { results := [.lit (.bool true)], args := [d1, d2] }
  | _ => none }
def latchHoldsRow : OpenClaim := { program := "ytphaaebhgggbaaa", sum := "60a145e21d4fd82bd30104e90ffa92128d3a526bab7789d65a23fbfab5429b08", func := "aqueduct/aqueductlaw39.LatchHolds", spec := "latchHolds", apart := false }
def LatchHoldsSaid : Prop := latchHoldsRow.holds Try.pinned (OpenSpec.ofChange latchHoldsSpec)

/-- ITS FALSE NEIGHBOUR: 'it returns false'. Refute it at one input. -/
def latchHoldsWrong : ChangeSpec := { name := "latchHolds", fn := fun _ => fun
  | [d1, d2] => { results := [.lit (.bool false)], args := [d1, d2] }
  | _ => none }
def LatchHoldsWrongFalsely : Prop := latchHoldsRow.holds Try.pinned (OpenSpec.ofChange latchHoldsWrong)

/-- 'aqueductlaw39.LatchBarriers': WHATEVER THE INPUT: true; the input reads as it did. -/
def latchBarriersSpec : ChangeSpec := { name := "latchBarriers", fn := fun _ => fun
  | [d1, d2] => { results := [.lit (.bool true)], args := [d1, d2] }
  | _ => none }
def latchBarriersRow : OpenClaim := { program := "ytphaaebhgggbaaa", sum := "60a145e21d4fd82bd30104e90ffa92128d3a526bab7789d65a23fbfab5429b08", func := "aqueduct/aqueductlaw39.LatchBarriers", spec := "latchBarriers", inPlace := ["maps.clone"], apart := false }
def LatchBarriersSaid : Prop := latchBarriersRow.holds Try.pinned (OpenSpec.ofChange latchBarriersSpec)

/-- ITS FALSE NEIGHBOUR: 'it returns false'. Refute it at one input. -/
def latchBarriersWrong : ChangeSpec := { name := "latchBarriers", fn := fun _ => fun
  | [d1, d2] => { results := [.lit (.bool false)], args := [d1, d2] }
  | _ => none }
def LatchBarriersWrongFalsely : Prop := latchBarriersRow.holds Try.pinned (OpenSpec.ofChange latchBarriersWrong)

/-- 'aqueductlaw39.LatchOnces': WHATEVER THE INPUT: true; the input reads as it did. -/
def latchOncesSpec : ChangeSpec := { name := "latchOnces", fn := fun _ => fun
  | [d] => { results := [.lit (.bool true)], args := [d] }
  | _ => none }
def latchOncesRow : OpenClaim := { program := "ytphaaebhgggbaaa", sum := "60a145e21d4fd82bd30104e90ffa92128d3a526bab7789d65a23fbfab5429b08", func := "aqueduct/aqueductlaw39.LatchOnces", spec := "latchOnces", inPlace := ["maps.clone"], apart := false }
def LatchOncesSaid : Prop := latchOncesRow.holds Try.pinned (OpenSpec.ofChange latchOncesSpec)

/-- ITS FALSE NEIGHBOUR: 'it returns false'. Refute it at one input. -/
def latchOncesWrong : ChangeSpec := { name := "latchOnces", fn := fun _ => fun
  | [d] => { results := [.lit (.bool false)], args := [d] }
  | _ => none }
def LatchOncesWrongFalsely : Prop := latchOncesRow.holds Try.pinned (OpenSpec.ofChange latchOncesWrong)

/-- 'aqueductlaw39.LatchPlays': WHATEVER THE INPUT: true; the input reads as it did. -/
def latchPlaysSpec : ChangeSpec := { name := "latchPlays", fn := fun _ => fun
  | [d1, d2] => { results := [.lit (.bool true)], args := [d1, d2] }
  | _ => none }
def latchPlaysRow : OpenClaim := { program := "ytphaaebhgggbaaa", sum := "60a145e21d4fd82bd30104e90ffa92128d3a526bab7789d65a23fbfab5429b08", func := "aqueduct/aqueductlaw39.LatchPlays", spec := "latchPlays", inPlace := ["maps.clone"], apart := false }
def LatchPlaysSaid : Prop := latchPlaysRow.holds Try.pinned (OpenSpec.ofChange latchPlaysSpec)

/-- ITS FALSE NEIGHBOUR: 'it returns false'. Refute it at one input. -/
def latchPlaysWrong : ChangeSpec := { name := "latchPlays", fn := fun _ => fun
  | [d1, d2] => { results := [.lit (.bool false)], args := [d1, d2] }
  | _ => none }
def LatchPlaysWrongFalsely : Prop := latchPlaysRow.holds Try.pinned (OpenSpec.ofChange latchPlaysWrong)

/-- 'aqueductlaw39.LatchConds': WHATEVER THE INPUT: true; the input reads as it did. -/
def latchCondsSpec : ChangeSpec := { name := "latchConds", fn := fun _ => fun
  | [d] => { results := [.lit (.bool true)], args := [d] }
  | _ => none }
def latchCondsRow : OpenClaim := { program := "ytphaaebhgggbaaa", sum := "60a145e21d4fd82bd30104e90ffa92128d3a526bab7789d65a23fbfab5429b08", func := "aqueduct/aqueductlaw39.LatchConds", spec := "latchConds", inPlace := ["maps.clone"], apart := false }
def LatchCondsSaid : Prop := latchCondsRow.holds Try.pinned (OpenSpec.ofChange latchCondsSpec)

/-- ITS FALSE NEIGHBOUR: 'it returns false'. Refute it at one input. -/
def latchCondsWrong : ChangeSpec := { name := "latchConds", fn := fun _ => fun
  | [d] => { results := [.lit (.bool false)], args := [d] }
  | _ => none }
def LatchCondsWrongFalsely : Prop := latchCondsRow.holds Try.pinned (OpenSpec.ofChange latchCondsWrong)

/-- 'aqueductlaw39.LatchNone': WHATEVER THE INPUT: true; the input reads as it did. -/
def latchNoneSpec : ChangeSpec := { name := "latchNone", fn := fun _ => fun
  | [d] => { results := [.lit (.bool true)], args := [d] }
  | _ => none }
def latchNoneRow : OpenClaim := { program := "ytphaaebhgggbaaa", sum := "60a145e21d4fd82bd30104e90ffa92128d3a526bab7789d65a23fbfab5429b08", func := "aqueduct/aqueductlaw39.LatchNone", spec := "latchNone", inPlace := ["maps.clone"], apart := false }
def LatchNoneSaid : Prop := latchNoneRow.holds Try.pinned (OpenSpec.ofChange latchNoneSpec)

/-- ITS FALSE NEIGHBOUR: 'it returns false'. Refute it at one input. -/
def latchNoneWrong : ChangeSpec := { name := "latchNone", fn := fun _ => fun
  | [d] => { results := [.lit (.bool false)], args := [d] }
  | _ => none }
def LatchNoneWrongFalsely : Prop := latchNoneRow.holds Try.pinned (OpenSpec.ofChange latchNoneWrong)

/- THE SECOND FORM. 'bulk': how many values and letters a reading holds, each counted each time it is reached (what is shared counts as often as it is met; a slice's spare places count too). A statement '..UptoSaid' is the law's where the arguments, and the package variables that the reading takes, are together of bulk at most 1048576: NARROWER than '..Said'. Prove '..Said' where nothing that the law and all that it calls make is longer than what came in: it says more and counts as full. Else prove '..UptoSaid'. A law counts once. -/
mutual
def uptoBulk {H : Type} : DataW H → Nat
  | .lit (.string bytes) => bytes.length + 1
  | .lit _ => 1
  | .nil => 1
  | .ptr d => uptoBulk d + 1
  | .slice elems spare => uptoBulkAll elems + uptoBulkAll spare + 1
  | .agg parts => uptoBulkAll parts + 1
  | .iface _ d => uptoBulk d + 1
  | .map entries => uptoBulkEntries entries + 1
  | .held _ => 1
def uptoBulkAll {H : Type} : List (DataW H) → Nat
  | [] => 0
  | d :: r => uptoBulk d + uptoBulkAll r
def uptoBulkEntries {H : Type} : List (Lit × DataW H) → Nat
  | [] => 0
  | x :: r => uptoBulkEntry x + uptoBulkEntries r
def uptoBulkEntry {H : Type} : Lit × DataW H → Nat
  | (.string bytes, d) => bytes.length + uptoBulk d + 1
  | (_, d) => uptoBulk d + 1
 end
def uptoSmall : (H : Type) → List (DataW H) → Bool := fun _ ds => decide (uptoBulkAll ds ≤ 1048576)
def OpenSpec.upto (s : _root_.Go.ChangeSpec) : _root_.Go.OpenSpec := { _root_.Go.OpenSpec.ofChange s with cond := some uptoSmall }

/-- 'aqueductlaw39.LatchHolds', WHERE WHAT IT READS IS OF BULK AT MOST 1048576: true; the input reads as it did. -/
def latchHoldsUptoRow : OpenClaim := { program := "ytphaaebhgggbaaa", sum := "60a145e21d4fd82bd30104e90ffa92128d3a526bab7789d65a23fbfab5429b08", func := "aqueduct/aqueductlaw39.LatchHolds", spec := "latchHolds", apart := false, narrowed := true }
def LatchHoldsUptoSaid : Prop := latchHoldsUptoRow.holds Try.pinned (OpenSpec.upto latchHoldsSpec)

/-- 'aqueductlaw39.LatchBarriers', WHERE WHAT IT READS IS OF BULK AT MOST 1048576: true; the input reads as it did. -/
def latchBarriersUptoRow : OpenClaim := { program := "ytphaaebhgggbaaa", sum := "60a145e21d4fd82bd30104e90ffa92128d3a526bab7789d65a23fbfab5429b08", func := "aqueduct/aqueductlaw39.LatchBarriers", spec := "latchBarriers", inPlace := ["maps.clone"], apart := false, narrowed := true }
def LatchBarriersUptoSaid : Prop := latchBarriersUptoRow.holds Try.pinned (OpenSpec.upto latchBarriersSpec)

/-- 'aqueductlaw39.LatchOnces', WHERE WHAT IT READS IS OF BULK AT MOST 1048576: true; the input reads as it did. -/
def latchOncesUptoRow : OpenClaim := { program := "ytphaaebhgggbaaa", sum := "60a145e21d4fd82bd30104e90ffa92128d3a526bab7789d65a23fbfab5429b08", func := "aqueduct/aqueductlaw39.LatchOnces", spec := "latchOnces", inPlace := ["maps.clone"], apart := false, narrowed := true }
def LatchOncesUptoSaid : Prop := latchOncesUptoRow.holds Try.pinned (OpenSpec.upto latchOncesSpec)

/-- 'aqueductlaw39.LatchPlays', WHERE WHAT IT READS IS OF BULK AT MOST 1048576: true; the input reads as it did. -/
def latchPlaysUptoRow : OpenClaim := { program := "ytphaaebhgggbaaa", sum := "60a145e21d4fd82bd30104e90ffa92128d3a526bab7789d65a23fbfab5429b08", func := "aqueduct/aqueductlaw39.LatchPlays", spec := "latchPlays", inPlace := ["maps.clone"], apart := false, narrowed := true }
def LatchPlaysUptoSaid : Prop := latchPlaysUptoRow.holds Try.pinned (OpenSpec.upto latchPlaysSpec)

/-- 'aqueductlaw39.LatchConds', WHERE WHAT IT READS IS OF BULK AT MOST 1048576: true; the input reads as it did. -/
def latchCondsUptoRow : OpenClaim := { program := "ytphaaebhgggbaaa", sum := "60a145e21d4fd82bd30104e90ffa92128d3a526bab7789d65a23fbfab5429b08", func := "aqueduct/aqueductlaw39.LatchConds", spec := "latchConds", inPlace := ["maps.clone"], apart := false, narrowed := true }
def LatchCondsUptoSaid : Prop := latchCondsUptoRow.holds Try.pinned (OpenSpec.upto latchCondsSpec)

/-- 'aqueductlaw39.LatchNone', WHERE WHAT IT READS IS OF BULK AT MOST 1048576: true; the input reads as it did. -/
def latchNoneUptoRow : OpenClaim := { program := "ytphaaebhgggbaaa", sum := "60a145e21d4fd82bd30104e90ffa92128d3a526bab7789d65a23fbfab5429b08", func := "aqueduct/aqueductlaw39.LatchNone", spec := "latchNone", inPlace := ["maps.clone"], apart := false, narrowed := true }
def LatchNoneUptoSaid : Prop := latchNoneUptoRow.holds Try.pinned (OpenSpec.upto latchNoneSpec)

end Rows
end Go.Proofs.Ytphaaebhgggbaaa
