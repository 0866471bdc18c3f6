/-
  No cell of these rows narrows 'for every input' (looked for: loops, veiled, ifaces, maps, wideKeys, modest, calm, conditions, laid).
  DERIVED. THE GIVEN ROWS OF THIS SEAT. 2 by the template 'for every input the law returns true; each argument reads behind the call as it read before'; 0 by the template 'total and deterministic' (their statements: YtlbkfakaidfokaaTotals.lean).
  GIVEN WITH THE SEED: the statements are not yours to turn. If you find one false, say at which input.
  Laid BY PROGRAM, IN A SANDBOX (cutbox-rows.mjs): the forced cells as the released guide's own fill.sh prints them over the translation 05420c603edef1fa… (all of the seat's roots in one cut). By AI agents, Wed Nov 11 2026. No macro, syntax, notation, axiom, sorry.
-/
import Derived.Test.YtlbkfakaidfokaaChecked
import GoSem.Claim
import GoSem.ClaimJoined
import GoSem.ClaimMapViews
import Derived.JoinedTies
import Derived.KernelRfl
namespace Go.Proofs.Ytlbkfakaidfokaa
/- THE CELL 'sum', in the pinned program and in every row, IS THE sha256 OF THE DUMP (.gsa) THAT YtlbkfakaidfokaaProg.lean LOADS. Nothing in Lean hashes anything: it is a label: what it is worth is what the hold of that sum in a sandbox is worth. -/
noncomputable def Try.pinned : Pinned := { name := "ytlbkfakaidfokaa", sum := "05420c603edef1facd73a6372bb3576123e3bb135a8a41b69e0edd9d98a7b86e", checked := Try.checked }
namespace Rows
def none {H : Type} : Left H := { results := [], args := [] }

/-- 'catwalklaw22.MagicDraws': WHATEVER THE INPUT: true; the input reads as it did. -/
def magicDrawsSpec : ChangeSpec := { name := "magicDraws", fn := fun _ => fun
  | [d] => { results := [.lit (.bool true)], args := [d] }
  | _ => none }
def magicDrawsRow : OpenClaim := { program := "ytlbkfakaidfokaa", sum := "05420c603edef1facd73a6372bb3576123e3bb135a8a41b69e0edd9d98a7b86e", func := "catwalk/catwalklaw22.MagicDraws", spec := "magicDraws", apart := false }
def MagicDrawsSaid : Prop := magicDrawsRow.holds Try.pinned (OpenSpec.ofChange magicDrawsSpec)

/-- ITS FALSE NEIGHBOUR: 'it returns false'. Refute it at one input. -/
def magicDrawsWrong : ChangeSpec := { name := "magicDraws", fn := fun _ => fun
  | [d] => { results := [.lit (.bool false)], args := [d] }
  | _ => none }
def MagicDrawsWrongFalsely : Prop := magicDrawsRow.holds Try.pinned (OpenSpec.ofChange magicDrawsWrong)

/-- 'catwalklaw22.MagicLoops': WHATEVER THE INPUT: true; the input reads as it did. -/
def magicLoopsSpec : ChangeSpec := { name := "magicLoops", fn := fun _ => fun
  | [d1, d2] => { results := [.lit (.bool true)], args := [d1, d2] }
  | _ => none }
def magicLoopsRow : OpenClaim := { program := "ytlbkfakaidfokaa", sum := "05420c603edef1facd73a6372bb3576123e3bb135a8a41b69e0edd9d98a7b86e", func := "catwalk/catwalklaw22.MagicLoops", spec := "magicLoops", apart := false }
def MagicLoopsSaid : Prop := magicLoopsRow.holds Try.pinned (OpenSpec.ofChange magicLoopsSpec)

/-- ITS FALSE NEIGHBOUR: 'it returns false'. Refute it at one input. -/
def magicLoopsWrong : ChangeSpec := { name := "magicLoops", fn := fun _ => fun
  | [d1, d2] => { results := [.lit (.bool false)], args := [d1, d2] }
  | _ => none }
def MagicLoopsWrongFalsely : Prop := magicLoopsRow.holds Try.pinned (OpenSpec.ofChange magicLoopsWrong)

/- THE SECOND FORM. 'bulk': how many values and letters a reading holds, each counted each time it is reached (what is shared counts as often as it is met; a slice's spare places count too). A statement '..UptoSaid' is the law's where the arguments, and the package variables that the reading takes, are together of bulk at most 1048576: NARROWER than '..Said'. Prove '..Said' where nothing that the law and all that it calls make is longer than what came in: it says more and counts as full. Else prove '..UptoSaid'. A law counts once. -/
mutual
def uptoBulk {H : Type} : DataW H → Nat
  | .lit (.string bytes) => bytes.length + 1
  | .lit _ => 1
  | .nil => 1
  | .ptr d => uptoBulk d + 1
  | .slice elems spare => uptoBulkAll elems + uptoBulkAll spare + 1
  | .agg parts => uptoBulkAll parts + 1
  | .iface _ d => uptoBulk d + 1
  | .map entries => uptoBulkEntries entries + 1
  | .held _ => 1
def uptoBulkAll {H : Type} : List (DataW H) → Nat
  | [] => 0
  | d :: r => uptoBulk d + uptoBulkAll r
def uptoBulkEntries {H : Type} : List (Lit × DataW H) → Nat
  | [] => 0
  | x :: r => uptoBulkEntry x + uptoBulkEntries r
def uptoBulkEntry {H : Type} : Lit × DataW H → Nat
  | (.string bytes, d) => bytes.length + uptoBulk d + 1
  | (_, d) => uptoBulk d + 1
 end
def uptoSmall : (H : Type) → List (DataW H) → Bool := fun _ ds => decide (uptoBulkAll ds ≤ 1048576)
def OpenSpec.upto (s : _root_.Go.ChangeSpec) : _root_.Go.OpenSpec := { _root_.Go.OpenSpec.ofChange s with cond := some uptoSmall }

/-- 'catwalklaw22.MagicDraws', WHERE WHAT IT READS IS OF BULK AT MOST 1048576: true; the input reads as it did. -/
def magicDrawsUptoRow : OpenClaim := { program := "ytlbkfakaidfokaa", sum := "05420c603edef1facd73a6372bb3576123e3bb135a8a41b69e0edd9d98a7b86e", func := "catwalk/catwalklaw22.MagicDraws", spec := "magicDraws", apart := false, narrowed := true }
def MagicDrawsUptoSaid : Prop := magicDrawsUptoRow.holds Try.pinned (OpenSpec.upto magicDrawsSpec)

/-- 'catwalklaw22.MagicLoops', WHERE WHAT IT READS IS OF BULK AT MOST 1048576: true; the input reads as it did. -/
def magicLoopsUptoRow : OpenClaim := { program := "ytlbkfakaidfokaa", sum := "05420c603edef1facd73a6372bb3576123e3bb135a8a41b69e0edd9d98a7b86e", func := "catwalk/catwalklaw22.MagicLoops", spec := "magicLoops", apart := false, narrowed := true }
def MagicLoopsUptoSaid : Prop := magicLoopsUptoRow.holds Try.pinned (OpenSpec.upto magicLoopsSpec)

end Rows
end Go.Proofs.Ytlbkfakaidfokaa
