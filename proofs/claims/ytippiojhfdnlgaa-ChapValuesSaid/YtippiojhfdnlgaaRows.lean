/-
  No cell of these rows narrows 'for every input' (looked for: loops, veiled, ifaces, maps, wideKeys, modest, calm, conditions, laid).
  DERIVED. THE GIVEN ROWS OF THIS SEAT. 4 by the template 'for every input the law returns true; each argument reads behind the call as it read before'; 0 by the template 'total and deterministic' (their statements: YtippiojhfdnlgaaTotals.lean).
  GIVEN WITH THE SEED: the statements are not yours to turn. If you find one false, say at which input.
  Laid BY PROGRAM, IN A SANDBOX (cutbox-rows.mjs): the forced cells as the released guide's own fill.sh prints them over the translation 2608bdcb5e1e93db… (all of the seat's roots in one cut). By AI agents, Wed Nov 11 2026. No macro, syntax, notation, axiom, sorry.
-/
import Derived.Test.YtippiojhfdnlgaaChecked
import GoSem.Claim
import GoSem.ClaimJoined
import GoSem.ClaimMapViews
import Derived.JoinedTies
import Derived.KernelRfl
namespace Go.Proofs.Ytippiojhfdnlgaa
/- THE CELL 'sum', in the pinned program and in every row, IS THE sha256 OF THE DUMP (.gsa) THAT YtippiojhfdnlgaaProg.lean LOADS. Nothing in Lean hashes anything: it is a label: what it is worth is what the hold of that sum in a sandbox is worth. -/
noncomputable def Try.pinned : Pinned := { name := "ytippiojhfdnlgaa", sum := "2608bdcb5e1e93dbe04223beacbe89f896ad06dc8596bb8eb1d70c83eae123e6", checked := Try.checked }
namespace Rows
def none {H : Type} : Left H := { results := [], args := [] }

/-- 'catwalklaw28.ChapBytes': WHATEVER THE INPUT: true; the input reads as it did. -/
def chapBytesSpec : ChangeSpec := { name := "chapBytes", fn := fun _ => fun
  | [d] => { results := [.lit (.bool true)], args := [d] }
  | _ => none }
def chapBytesRow : OpenClaim := { program := "ytippiojhfdnlgaa", sum := "2608bdcb5e1e93dbe04223beacbe89f896ad06dc8596bb8eb1d70c83eae123e6", func := "catwalk/catwalklaw28.ChapBytes", spec := "chapBytes", apart := false }
def ChapBytesSaid : Prop := chapBytesRow.holds Try.pinned (OpenSpec.ofChange chapBytesSpec)

/-- ITS FALSE NEIGHBOUR: 'it returns false'. Refute it at one input. -/
def chapBytesWrong : ChangeSpec := { name := "chapBytes", fn := fun _ => fun
  | [d] => { results := [.lit (.bool false)], args := [d] }
  | _ => none }
def ChapBytesWrongFalsely : Prop := chapBytesRow.holds Try.pinned (OpenSpec.ofChange chapBytesWrong)

/-- 'catwalklaw28.ChapMakes': WHATEVER THE INPUT: true; the input reads as it did. -/
def chapMakesSpec : ChangeSpec := { name := "chapMakes", fn := fun _ => fun
  | [d1, d2, d3] => { results := [.lit (.bool true)], args := [d1, d2, d3] }
  | _ => none }
def chapMakesRow : OpenClaim := { program := "ytippiojhfdnlgaa", sum := "2608bdcb5e1e93dbe04223beacbe89f896ad06dc8596bb8eb1d70c83eae123e6", func := "catwalk/catwalklaw28.ChapMakes", spec := "chapMakes", apart := false }
def ChapMakesSaid : Prop := chapMakesRow.holds Try.pinned (OpenSpec.ofChange chapMakesSpec)

/-- ITS FALSE NEIGHBOUR: 'it returns false'. Refute it at one input. -/
def chapMakesWrong : ChangeSpec := { name := "chapMakes", fn := fun _ => fun
  | [d1, d2, d3] => { results := [.lit (.bool false)], args := [d1, d2, d3] }
  | _ => none }
def ChapMakesWrongFalsely : Prop := chapMakesRow.holds Try.pinned (OpenSpec.ofChange chapMakesWrong)

/-- 'catwalklaw28.ChapSplits': WHATEVER THE INPUT: true; the input reads as it did. -/
def chapSplitsSpec : ChangeSpec := { name := "chapSplits", fn := fun _ => fun
  | [d] => { results := [.lit (.bool true)], args := [d] }
  | _ => none }
def chapSplitsRow : OpenClaim := { program := "ytippiojhfdnlgaa", sum := "2608bdcb5e1e93dbe04223beacbe89f896ad06dc8596bb8eb1d70c83eae123e6", func := "catwalk/catwalklaw28.ChapSplits", spec := "chapSplits", apart := false }
def ChapSplitsSaid : Prop := chapSplitsRow.holds Try.pinned (OpenSpec.ofChange chapSplitsSpec)

/-- ITS FALSE NEIGHBOUR: 'it returns false'. Refute it at one input. -/
def chapSplitsWrong : ChangeSpec := { name := "chapSplits", fn := fun _ => fun
  | [d] => { results := [.lit (.bool false)], args := [d] }
  | _ => none }
def ChapSplitsWrongFalsely : Prop := chapSplitsRow.holds Try.pinned (OpenSpec.ofChange chapSplitsWrong)

/-- 'catwalklaw28.ChapValues': WHATEVER THE INPUT: true; the input reads as it did. -/
def chapValuesSpec : ChangeSpec := { name := "chapValues", fn := fun _ => fun
  | [d1, d2, d3] => { results := [.lit (.bool true)], args := [d1, d2, d3] }
  | _ => none }
def chapValuesRow : OpenClaim := { program := "ytippiojhfdnlgaa", sum := "2608bdcb5e1e93dbe04223beacbe89f896ad06dc8596bb8eb1d70c83eae123e6", func := "catwalk/catwalklaw28.ChapValues", spec := "chapValues", apart := false }
def ChapValuesSaid : Prop := chapValuesRow.holds Try.pinned (OpenSpec.ofChange chapValuesSpec)

/-- ITS FALSE NEIGHBOUR: 'it returns false'. Refute it at one input. -/
def chapValuesWrong : ChangeSpec := { name := "chapValues", fn := fun _ => fun
  | [d1, d2, d3] => { results := [.lit (.bool false)], args := [d1, d2, d3] }
  | _ => none }
def ChapValuesWrongFalsely : Prop := chapValuesRow.holds Try.pinned (OpenSpec.ofChange chapValuesWrong)

/- THE SECOND FORM. 'bulk': how many values and letters a reading holds, each counted each time it is reached (what is shared counts as often as it is met; a slice's spare places count too). A statement '..UptoSaid' is the law's where the arguments, and the package variables that the reading takes, are together of bulk at most 1048576: NARROWER than '..Said'. Prove '..Said' where nothing that the law and all that it calls make is longer than what came in: it says more and counts as full. Else prove '..UptoSaid'. A law counts once. -/
mutual
def uptoBulk {H : Type} : DataW H → Nat
  | .lit (.string bytes) => bytes.length + 1
  | .lit _ => 1
  | .nil => 1
  | .ptr d => uptoBulk d + 1
  | .slice elems spare => uptoBulkAll elems + uptoBulkAll spare + 1
  | .agg parts => uptoBulkAll parts + 1
  | .iface _ d => uptoBulk d + 1
  | .map entries => uptoBulkEntries entries + 1
  | .held _ => 1
def uptoBulkAll {H : Type} : List (DataW H) → Nat
  | [] => 0
  | d :: r => uptoBulk d + uptoBulkAll r
def uptoBulkEntries {H : Type} : List (Lit × DataW H) → Nat
  | [] => 0
  | x :: r => uptoBulkEntry x + uptoBulkEntries r
def uptoBulkEntry {H : Type} : Lit × DataW H → Nat
  | (.string bytes, d) => bytes.length + uptoBulk d + 1
  | (_, d) => uptoBulk d + 1
 end
def uptoSmall : (H : Type) → List (DataW H) → Bool := fun _ ds => decide (uptoBulkAll ds ≤ 1048576)
def OpenSpec.upto (s : _root_.Go.ChangeSpec) : _root_.Go.OpenSpec := { _root_.Go.OpenSpec.ofChange s with cond := some uptoSmall }

/-- 'catwalklaw28.ChapBytes', WHERE WHAT IT READS IS OF BULK AT MOST 1048576: true; the input reads as it did. -/
def chapBytesUptoRow : OpenClaim := { program := "ytippiojhfdnlgaa", sum := "2608bdcb5e1e93dbe04223beacbe89f896ad06dc8596bb8eb1d70c83eae123e6", func := "catwalk/catwalklaw28.ChapBytes", spec := "chapBytes", apart := false, narrowed := true }
def ChapBytesUptoSaid : Prop := chapBytesUptoRow.holds Try.pinned (OpenSpec.upto chapBytesSpec)

/-- 'catwalklaw28.ChapMakes', WHERE WHAT IT READS IS OF BULK AT MOST 1048576: true; the input reads as it did. -/
def chapMakesUptoRow : OpenClaim := { program := "ytippiojhfdnlgaa", sum := "2608bdcb5e1e93dbe04223beacbe89f896ad06dc8596bb8eb1d70c83eae123e6", func := "catwalk/catwalklaw28.ChapMakes", spec := "chapMakes", apart := false, narrowed := true }
def ChapMakesUptoSaid : Prop := chapMakesUptoRow.holds Try.pinned (OpenSpec.upto chapMakesSpec)

/-- 'catwalklaw28.ChapSplits', WHERE WHAT IT READS IS OF BULK AT MOST 1048576: true; the input reads as it did. -/
def chapSplitsUptoRow : OpenClaim := { program := "ytippiojhfdnlgaa", sum := "2608bdcb5e1e93dbe04223beacbe89f896ad06dc8596bb8eb1d70c83eae123e6", func := "catwalk/catwalklaw28.ChapSplits", spec := "chapSplits", apart := false, narrowed := true }
def ChapSplitsUptoSaid : Prop := chapSplitsUptoRow.holds Try.pinned (OpenSpec.upto chapSplitsSpec)

/-- 'catwalklaw28.ChapValues', WHERE WHAT IT READS IS OF BULK AT MOST 1048576: true; the input reads as it did. -/
def chapValuesUptoRow : OpenClaim := { program := "ytippiojhfdnlgaa", sum := "2608bdcb5e1e93dbe04223beacbe89f896ad06dc8596bb8eb1d70c83eae123e6", func := "catwalk/catwalklaw28.ChapValues", spec := "chapValues", apart := false, narrowed := true }
def ChapValuesUptoSaid : Prop := chapValuesUptoRow.holds Try.pinned (OpenSpec.upto chapValuesSpec)

end Rows
end Go.Proofs.Ytippiojhfdnlgaa
