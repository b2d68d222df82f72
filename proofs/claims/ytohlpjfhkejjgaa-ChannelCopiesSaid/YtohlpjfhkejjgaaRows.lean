/-
  No cell of these rows narrows 'for every input' (looked for: loops, veiled, ifaces, maps, wideKeys, modest, calm, conditions, laid).
  DERIVED. THE GIVEN ROWS OF THIS SEAT. 6 by the template 'for every input the law returns true; each argument reads behind the call as it read before'; 0 by the template 'total and deterministic' (their statements: YtohlpjfhkejjgaaTotals.lean).
  GIVEN WITH THE SEED: the statements are not yours to turn. If you find one false, say at which input.
  Laid BY PROGRAM, IN A SANDBOX (cutbox-rows.mjs): the forced cells as the released guide's own fill.sh prints them over the translation 78cc643be8d5f367… (all of the seat's roots in one cut). By AI agents, Wed Nov 11 2026. No macro, syntax, notation, axiom, sorry.
-/
import Derived.Test.YtohlpjfhkejjgaaChecked
import GoSem.Claim
import GoSem.ClaimJoined
import GoSem.ClaimMapViews
import Derived.JoinedTies
import Derived.KernelRfl
namespace Go.Proofs.Ytohlpjfhkejjgaa
/- THE CELL 'sum', in the pinned program and in every row, IS THE sha256 OF THE DUMP (.gsa) THAT YtohlpjfhkejjgaaProg.lean LOADS. Nothing in Lean hashes anything: it is a label: what it is worth is what the hold of that sum in a sandbox is worth. -/
noncomputable def Try.pinned : Pinned := { name := "ytohlpjfhkejjgaa", sum := "78cc643be8d5f367fc858f5c1ee436110722d4757999d688cb7271745ba2b0d9", checked := Try.checked }
namespace Rows
def none {H : Type} : Left H := { results := [], args := [] }

/-- 'aqueductlaw36.ChannelOrder': WHATEVER THE INPUT: true; the input reads as it did. -/
def channelOrderSpec : ChangeSpec := { name := "channelOrder", fn := fun _ => fun
  | [d1, d2] => { results := [.lit (.bool true)], args := [d1, d2] }
  | _ => none }
def channelOrderRow : OpenClaim := { program := "ytohlpjfhkejjgaa", sum := "78cc643be8d5f367fc858f5c1ee436110722d4757999d688cb7271745ba2b0d9", func := "aqueduct/aqueductlaw36.ChannelOrder", spec := "channelOrder", apart := false }
def ChannelOrderSaid : Prop := channelOrderRow.holds Try.pinned (OpenSpec.ofChange channelOrderSpec)

/-- ITS FALSE NEIGHBOUR: 'it returns false'. Refute it at one input. -/
def channelOrderWrong : ChangeSpec := { name := "channelOrder", fn := fun _ => fun
  | [d1, d2] => { results := [.lit (.bool false)], args := [d1, d2] }
  | _ => none }
def ChannelOrderWrongFalsely : Prop := channelOrderRow.holds Try.pinned (OpenSpec.ofChange channelOrderWrong)

/-- 'aqueductlaw36.ChannelNew': WHATEVER THE INPUT: true; the input reads as it did. -/
def channelNewSpec : ChangeSpec := { name := "channelNew", fn := fun _ => fun
  | [d] => { results := [.lit (.bool true)], args := [d] }
  | _ => none }
def channelNewRow : OpenClaim := { program := "ytohlpjfhkejjgaa", sum := "78cc643be8d5f367fc858f5c1ee436110722d4757999d688cb7271745ba2b0d9", func := "aqueduct/aqueductlaw36.ChannelNew", spec := "channelNew", apart := false }
def ChannelNewSaid : Prop := channelNewRow.holds Try.pinned (OpenSpec.ofChange channelNewSpec)

/-- ITS FALSE NEIGHBOUR: 'it returns false'. Refute it at one input. -/
def channelNewWrong : ChangeSpec := { name := "channelNew", fn := fun _ => fun
  | [d] => { results := [.lit (.bool false)], args := [d] }
  | _ => none }
def ChannelNewWrongFalsely : Prop := channelNewRow.holds Try.pinned (OpenSpec.ofChange channelNewWrong)

/-- 'aqueductlaw36.ChannelPlays': WHATEVER THE INPUT: true; the input reads as it did. -/
def channelPlaysSpec : ChangeSpec := { name := "channelPlays", fn := fun _ => fun
  | [d1, d2] => { results := [.lit (.bool true)], args := [d1, d2] }
  | _ => none }
def channelPlaysRow : OpenClaim := { program := "ytohlpjfhkejjgaa", sum := "78cc643be8d5f367fc858f5c1ee436110722d4757999d688cb7271745ba2b0d9", func := "aqueduct/aqueductlaw36.ChannelPlays", spec := "channelPlays", apart := false }
def ChannelPlaysSaid : Prop := channelPlaysRow.holds Try.pinned (OpenSpec.ofChange channelPlaysSpec)

/-- ITS FALSE NEIGHBOUR: 'it returns false'. Refute it at one input. -/
def channelPlaysWrong : ChangeSpec := { name := "channelPlays", fn := fun _ => fun
  | [d1, d2] => { results := [.lit (.bool false)], args := [d1, d2] }
  | _ => none }
def ChannelPlaysWrongFalsely : Prop := channelPlaysRow.holds Try.pinned (OpenSpec.ofChange channelPlaysWrong)

/-- 'aqueductlaw36.ChannelHolds': WHATEVER THE INPUT: true; the input reads as it did. -/
def channelHoldsSpec : ChangeSpec := { name := "channelHolds", fn := fun _ => fun
  | [d1, d2] => { results := [.lit (.bool true)], args := [d1, d2] }
  | _ => none }
def channelHoldsRow : OpenClaim := { program := "ytohlpjfhkejjgaa", sum := "78cc643be8d5f367fc858f5c1ee436110722d4757999d688cb7271745ba2b0d9", func := "aqueduct/aqueductlaw36.ChannelHolds", spec := "channelHolds", apart := false }
def ChannelHoldsSaid : Prop := channelHoldsRow.holds Try.pinned (OpenSpec.ofChange channelHoldsSpec)

/-- ITS FALSE NEIGHBOUR: 'it returns false'. Refute it at one input. -/
def channelHoldsWrong : ChangeSpec := { name := "channelHolds", fn := fun _ => fun
  | [d1, d2] => { results := [.lit (.bool false)], args := [d1, d2] }
  | _ => none }
def ChannelHoldsWrongFalsely : Prop := channelHoldsRow.holds Try.pinned (OpenSpec.ofChange channelHoldsWrong)

/-- 'aqueductlaw36.ChannelCopies': WHATEVER THE INPUT: true; the input reads as it did. -/
def channelCopiesSpec : ChangeSpec := { name := "channelCopies", fn := fun _ => fun
  | [d1, d2, d3, d4] => { results := [.lit (.bool true)], args := [d1, d2, d3, d4] }
  | _ => none }
def channelCopiesRow : OpenClaim := { program := "ytohlpjfhkejjgaa", sum := "78cc643be8d5f367fc858f5c1ee436110722d4757999d688cb7271745ba2b0d9", func := "aqueduct/aqueductlaw36.ChannelCopies", spec := "channelCopies", inPlace := ["maps.clone"], apart := false }
def ChannelCopiesSaid : Prop := channelCopiesRow.holds Try.pinned (OpenSpec.ofChange channelCopiesSpec)

/-- ITS FALSE NEIGHBOUR: 'it returns false'. Refute it at one input. -/
def channelCopiesWrong : ChangeSpec := { name := "channelCopies", fn := fun _ => fun
  | [d1, d2, d3, d4] => { results := [.lit (.bool false)], args := [d1, d2, d3, d4] }
  | _ => none }
def ChannelCopiesWrongFalsely : Prop := channelCopiesRow.holds Try.pinned (OpenSpec.ofChange channelCopiesWrong)

/-- 'aqueductlaw36.ChannelNone': WHATEVER THE INPUT: true; the input reads as it did. -/
def channelNoneSpec : ChangeSpec := { name := "channelNone", fn := fun _ => fun
  | [d] => { results := [.lit (.bool true)], args := [d] }
  | _ => none }
def channelNoneRow : OpenClaim := { program := "ytohlpjfhkejjgaa", sum := "78cc643be8d5f367fc858f5c1ee436110722d4757999d688cb7271745ba2b0d9", func := "aqueduct/aqueductlaw36.ChannelNone", spec := "channelNone", inPlace := ["maps.clone"], apart := false }
def ChannelNoneSaid : Prop := channelNoneRow.holds Try.pinned (OpenSpec.ofChange channelNoneSpec)

/-- ITS FALSE NEIGHBOUR: 'it returns false'. Refute it at one input. -/
def channelNoneWrong : ChangeSpec := { name := "channelNone", fn := fun _ => fun
  | [d] => { results := [.lit (.bool false)], args := [d] }
  | _ => none }
def ChannelNoneWrongFalsely : Prop := channelNoneRow.holds Try.pinned (OpenSpec.ofChange channelNoneWrong)

/- THE SECOND FORM. 'bulk': how many values and letters a reading holds, each counted each time it is reached (what is shared counts as often as it is met; a slice's spare places count too). A statement '..UptoSaid' is the law's where the arguments, and the package variables that the reading takes, are together of bulk at most 1048576: NARROWER than '..Said'. Prove '..Said' where nothing that the law and all that it calls make is longer than what came in: it says more and counts as full. Else prove '..UptoSaid'. A law counts once. -/
mutual
def uptoBulk {H : Type} : DataW H → Nat
  | .lit (.string bytes) => bytes.length + 1
  | .lit _ => 1
  | .nil => 1
  | .ptr d => uptoBulk d + 1
  | .slice elems spare => uptoBulkAll elems + uptoBulkAll spare + 1
  | .agg parts => uptoBulkAll parts + 1
  | .iface _ d => uptoBulk d + 1
  | .map entries => uptoBulkEntries entries + 1
  | .held _ => 1
def uptoBulkAll {H : Type} : List (DataW H) → Nat
  | [] => 0
  | d :: r => uptoBulk d + uptoBulkAll r
def uptoBulkEntries {H : Type} : List (Lit × DataW H) → Nat
  | [] => 0
  | x :: r => uptoBulkEntry x + uptoBulkEntries r
def uptoBulkEntry {H : Type} : Lit × DataW H → Nat
  | (.string bytes, d) => bytes.length + uptoBulk d + 1
  | (_, d) => uptoBulk d + 1
 end
def uptoSmall : (H : Type) → List (DataW H) → Bool := fun _ ds => decide (uptoBulkAll ds ≤ 1048576)
def OpenSpec.upto (s : _root_.Go.ChangeSpec) : _root_.Go.OpenSpec := { _root_.Go.OpenSpec.ofChange s with cond := some uptoSmall }

/-- 'aqueductlaw36.ChannelOrder', WHERE WHAT IT READS IS OF BULK AT MOST 1048576: true; the input reads as it did. -/
def channelOrderUptoRow : OpenClaim := { program := "ytohlpjfhkejjgaa", sum := "78cc643be8d5f367fc858f5c1ee436110722d4757999d688cb7271745ba2b0d9", func := "aqueduct/aqueductlaw36.ChannelOrder", spec := "channelOrder", apart := false, narrowed := true }
def ChannelOrderUptoSaid : Prop := channelOrderUptoRow.holds Try.pinned (OpenSpec.upto channelOrderSpec)

/-- 'aqueductlaw36.ChannelNew', WHERE WHAT IT READS IS OF BULK AT MOST 1048576: true; the input reads as it did. -/
def channelNewUptoRow : OpenClaim := { program := "ytohlpjfhkejjgaa", sum := "78cc643be8d5f367fc858f5c1ee436110722d4757999d688cb7271745ba2b0d9", func := "aqueduct/aqueductlaw36.ChannelNew", spec := "channelNew", apart := false, narrowed := true }
def ChannelNewUptoSaid : Prop := channelNewUptoRow.holds Try.pinned (OpenSpec.upto channelNewSpec)

/-- 'aqueductlaw36.ChannelPlays', WHERE WHAT IT READS IS OF BULK AT MOST 1048576: true; the input reads as it did. -/
def channelPlaysUptoRow : OpenClaim := { program := "ytohlpjfhkejjgaa", sum := "78cc643be8d5f367fc858f5c1ee436110722d4757999d688cb7271745ba2b0d9", func := "aqueduct/aqueductlaw36.ChannelPlays", spec := "channelPlays", apart := false, narrowed := true }
def ChannelPlaysUptoSaid : Prop := channelPlaysUptoRow.holds Try.pinned (OpenSpec.upto channelPlaysSpec)

/-- 'aqueductlaw36.ChannelHolds', WHERE WHAT IT READS IS OF BULK AT MOST 1048576: true; the input reads as it did. -/
def channelHoldsUptoRow : OpenClaim := { program := "ytohlpjfhkejjgaa", sum := "78cc643be8d5f367fc858f5c1ee436110722d4757999d688cb7271745ba2b0d9", func := "aqueduct/aqueductlaw36.ChannelHolds", spec := "channelHolds", apart := false, narrowed := true }
def ChannelHoldsUptoSaid : Prop := channelHoldsUptoRow.holds Try.pinned (OpenSpec.upto channelHoldsSpec)

/-- 'aqueductlaw36.ChannelCopies', WHERE WHAT IT READS IS OF BULK AT MOST 1048576: true; the input reads as it did. -/
def channelCopiesUptoRow : OpenClaim := { program := "ytohlpjfhkejjgaa", sum := "78cc643be8d5f367fc858f5c1ee436110722d4757999d688cb7271745ba2b0d9", func := "aqueduct/aqueductlaw36.ChannelCopies", spec := "channelCopies", inPlace := ["maps.clone"], apart := false, narrowed := true }
def ChannelCopiesUptoSaid : Prop := channelCopiesUptoRow.holds Try.pinned (OpenSpec.upto channelCopiesSpec)

/-- 'aqueductlaw36.ChannelNone', WHERE WHAT IT READS IS OF BULK AT MOST 1048576: true; the input reads as it did. -/
def channelNoneUptoRow : OpenClaim := { program := "ytohlpjfhkejjgaa", sum := "78cc643be8d5f367fc858f5c1ee436110722d4757999d688cb7271745ba2b0d9", func := "aqueduct/aqueductlaw36.ChannelNone", spec := "channelNone", inPlace := ["maps.clone"], apart := false, narrowed := true }
def ChannelNoneUptoSaid : Prop := channelNoneUptoRow.holds Try.pinned (OpenSpec.upto channelNoneSpec)

end Rows
end Go.Proofs.Ytohlpjfhkejjgaa
