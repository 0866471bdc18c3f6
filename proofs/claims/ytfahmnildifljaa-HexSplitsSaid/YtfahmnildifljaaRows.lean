/-
  No cell of these rows narrows 'for every input' (looked for: loops, veiled, ifaces, maps, wideKeys, modest, calm, conditions, laid).
  DERIVED. THE GIVEN ROWS OF THIS SEAT. 3 by the template 'for every input the law returns true; each argument reads behind the call as it read before'; 0 by the template 'total and deterministic' (their statements: YtfahmnildifljaaTotals.lean).
  GIVEN WITH THE SEED: the statements are not yours to turn. If you find one false, say at which input.
  Laid BY PROGRAM, IN A SANDBOX (cutbox-rows.mjs): the forced cells as the released guide's own fill.sh prints them over the translation c40910f37ca636b6… (all of the seat's roots in one cut). By AI agents, Wed Nov 11 2026. No macro, syntax, notation, axiom, sorry.
-/
import Derived.Test.YtfahmnildifljaaChecked
import GoSem.Claim
import GoSem.ClaimJoined
import GoSem.ClaimMapViews
import Derived.JoinedTies
import Derived.KernelRfl
namespace Go.Proofs.Ytfahmnildifljaa
/- THE CELL 'sum', in the pinned program and in every row, IS THE sha256 OF THE DUMP (.gsa) THAT YtfahmnildifljaaProg.lean LOADS. Nothing in Lean hashes anything: it is a label: what it is worth is what the hold of that sum in a sandbox is worth. -/
noncomputable def Try.pinned : Pinned := { name := "ytfahmnildifljaa", sum := "c40910f37ca636b6504e81396a368de71630b8391e3458ad68c364fc9ef8752a", checked := Try.checked }
namespace Rows
def none {H : Type} : Left H := { results := [], args := [] }

/-- 'catwalklaw03.HexNums': WHATEVER THE INPUT: true; the input reads as it did. -/
def hexNumsSpec : ChangeSpec := { name := "hexNums", fn := fun _ => fun
  | [d1, d2] => { results := [.lit (.bool true)], args := [d1, d2] }
  | _ => none }
def hexNumsRow : OpenClaim := { program := "ytfahmnildifljaa", sum := "c40910f37ca636b6504e81396a368de71630b8391e3458ad68c364fc9ef8752a", func := "catwalk/catwalklaw03.HexNums", spec := "hexNums", recurses := true, apart := false }
def HexNumsSaid : Prop := hexNumsRow.holds Try.pinned (OpenSpec.ofChange hexNumsSpec)

/-- ITS FALSE NEIGHBOUR: 'it returns false'. Refute it at one input. -/
def hexNumsWrong : ChangeSpec := { name := "hexNums", fn := fun _ => fun
  | [d1, d2] => { results := [.lit (.bool false)], args := [d1, d2] }
  | _ => none }
def HexNumsWrongFalsely : Prop := hexNumsRow.holds Try.pinned (OpenSpec.ofChange hexNumsWrong)

/-- 'catwalklaw03.HexBytes': WHATEVER THE INPUT: true; the input reads as it did. -/
def hexBytesSpec : ChangeSpec := { name := "hexBytes", fn := fun _ => fun
  | [d1, d2] => { results := [.lit (.bool true)], args := [d1, d2] }
  | _ => none }
def hexBytesRow : OpenClaim := { program := "ytfahmnildifljaa", sum := "c40910f37ca636b6504e81396a368de71630b8391e3458ad68c364fc9ef8752a", func := "catwalk/catwalklaw03.HexBytes", spec := "hexBytes", apart := false }
def HexBytesSaid : Prop := hexBytesRow.holds Try.pinned (OpenSpec.ofChange hexBytesSpec)

/-- ITS FALSE NEIGHBOUR: 'it returns false'. Refute it at one input. -/
def hexBytesWrong : ChangeSpec := { name := "hexBytes", fn := fun _ => fun
  | [d1, d2] => { results := [.lit (.bool false)], args := [d1, d2] }
  | _ => none }
def HexBytesWrongFalsely : Prop := hexBytesRow.holds Try.pinned (OpenSpec.ofChange hexBytesWrong)

/-- 'catwalklaw03.HexSplits': WHATEVER THE INPUT: true; the input reads as it did. -/
def hexSplitsSpec : ChangeSpec := { name := "hexSplits", fn := fun _ => fun
  | [d] => { results := [.lit (.bool true)], args := [d] }
  | _ => none }
def hexSplitsRow : OpenClaim := { program := "ytfahmnildifljaa", sum := "c40910f37ca636b6504e81396a368de71630b8391e3458ad68c364fc9ef8752a", func := "catwalk/catwalklaw03.HexSplits", spec := "hexSplits", apart := false }
def HexSplitsSaid : Prop := hexSplitsRow.holds Try.pinned (OpenSpec.ofChange hexSplitsSpec)

/-- ITS FALSE NEIGHBOUR: 'it returns false'. Refute it at one input. -/
def hexSplitsWrong : ChangeSpec := { name := "hexSplits", fn := fun _ => fun
  | [d] => { results := [.lit (.bool false)], args := [d] }
  | _ => none }
def HexSplitsWrongFalsely : Prop := hexSplitsRow.holds Try.pinned (OpenSpec.ofChange hexSplitsWrong)

/- THE SECOND FORM. 'bulk': how many values and letters a reading holds, each counted each time it is reached (what is shared counts as often as it is met; a slice's spare places count too). A statement '..UptoSaid' is the law's where the arguments, and the package variables that the reading takes, are together of bulk at most 1048576: NARROWER than '..Said'. Prove '..Said' where nothing that the law and all that it calls make is longer than what came in: it says more and counts as full. Else prove '..UptoSaid'. A law counts once. -/
mutual
def uptoBulk {H : Type} : DataW H → Nat
  | .lit (.string bytes) => bytes.length + 1
  | .lit _ => 1
  | .nil => 1
  | .ptr d => uptoBulk d + 1
  | .slice elems spare => uptoBulkAll elems + uptoBulkAll spare + 1
  | .agg parts => uptoBulkAll parts + 1
  | .iface _ d => uptoBulk d + 1
  | .map entries => uptoBulkEntries entries + 1
  | .held _ => 1
def uptoBulkAll {H : Type} : List (DataW H) → Nat
  | [] => 0
  | d :: r => uptoBulk d + uptoBulkAll r
def uptoBulkEntries {H : Type} : List (Lit × DataW H) → Nat
  | [] => 0
  | x :: r => uptoBulkEntry x + uptoBulkEntries r
def uptoBulkEntry {H : Type} : Lit × DataW H → Nat
  | (.string bytes, d) => bytes.length + uptoBulk d + 1
  | (_, d) => uptoBulk d + 1
 end
def uptoSmall : (H : Type) → List (DataW H) → Bool := fun _ ds => decide (uptoBulkAll ds ≤ 1048576)
def OpenSpec.upto (s : _root_.Go.ChangeSpec) : _root_.Go.OpenSpec := { _root_.Go.OpenSpec.ofChange s with cond := some uptoSmall }

/-- 'catwalklaw03.HexNums', WHERE WHAT IT READS IS OF BULK AT MOST 1048576: true; the input reads as it did. -/
def hexNumsUptoRow : OpenClaim := { program := "ytfahmnildifljaa", sum := "c40910f37ca636b6504e81396a368de71630b8391e3458ad68c364fc9ef8752a", func := "catwalk/catwalklaw03.HexNums", spec := "hexNums", recurses := true, apart := false, narrowed := true }
def HexNumsUptoSaid : Prop := hexNumsUptoRow.holds Try.pinned (OpenSpec.upto hexNumsSpec)

/-- 'catwalklaw03.HexBytes', WHERE WHAT IT READS IS OF BULK AT MOST 1048576: true; the input reads as it did. -/
def hexBytesUptoRow : OpenClaim := { program := "ytfahmnildifljaa", sum := "c40910f37ca636b6504e81396a368de71630b8391e3458ad68c364fc9ef8752a", func := "catwalk/catwalklaw03.HexBytes", spec := "hexBytes", apart := false, narrowed := true }
def HexBytesUptoSaid : Prop := hexBytesUptoRow.holds Try.pinned (OpenSpec.upto hexBytesSpec)

/-- 'catwalklaw03.HexSplits', WHERE WHAT IT READS IS OF BULK AT MOST 1048576: true; the input reads as it did. -/
def hexSplitsUptoRow : OpenClaim := { program := "ytfahmnildifljaa", sum := "c40910f37ca636b6504e81396a368de71630b8391e3458ad68c364fc9ef8752a", func := "catwalk/catwalklaw03.HexSplits", spec := "hexSplits", apart := false, narrowed := true }
def HexSplitsUptoSaid : Prop := hexSplitsUptoRow.holds Try.pinned (OpenSpec.upto hexSplitsSpec)

end Rows
end Go.Proofs.Ytfahmnildifljaa
