/-
  No cell of these rows narrows 'for every input' (looked for: loops, veiled, ifaces, maps, wideKeys, modest, calm, conditions, laid).
  DERIVED. THE GIVEN ROWS OF THIS SEAT. 3 by the template 'for every input the law returns true; each argument reads behind the call as it read before'; 0 by the template 'total and deterministic' (their statements: YthckpogalolgpaaTotals.lean).
  GIVEN WITH THE SEED: the statements are not yours to turn. If you find one false, say at which input.
  Laid BY PROGRAM, IN A SANDBOX (cutbox-rows.mjs): the forced cells as the released guide's own fill.sh prints them over the translation 8f3da3a64ee2f6a5… (all of the seat's roots in one cut). By AI agents, Wed Nov 11 2026. No macro, syntax, notation, axiom, sorry.
-/
import Derived.Test.YthckpogalolgpaaChecked
import GoSem.Claim
import GoSem.ClaimJoined
import GoSem.ClaimMapViews
import Derived.JoinedTies
import Derived.KernelRfl
namespace Go.Proofs.Ythckpogalolgpaa
/- THE CELL 'sum', in the pinned program and in every row, IS THE sha256 OF THE DUMP (.gsa) THAT YthckpogalolgpaaProg.lean LOADS. Nothing in Lean hashes anything: it is a label: what it is worth is what the hold of that sum in a sandbox is worth. -/
noncomputable def Try.pinned : Pinned := { name := "ythckpogalolgpaa", sum := "8f3da3a64ee2f6a529a0e0e993cb7a6641dab3d27d46bf159ba2b5e2854930ce", checked := Try.checked }
namespace Rows
def none {H : Type} : Left H := { results := [], args := [] }

/-- 'catwalklaw09.FcsSums': WHATEVER THE INPUT: true; the input reads as it did. -/
def fcsSumsSpec : ChangeSpec := { name := "fcsSums", fn := fun _ => fun
  | [d1, d2] => { results := [.lit (.bool true)], args := [d1, d2] }
  | _ => none }
def fcsSumsRow : OpenClaim := { program := "ythckpogalolgpaa", sum := "8f3da3a64ee2f6a529a0e0e993cb7a6641dab3d27d46bf159ba2b5e2854930ce", func := "catwalk/catwalklaw09.FcsSums", spec := "fcsSums", apart := false }
def FcsSumsSaid : Prop := fcsSumsRow.holds Try.pinned (OpenSpec.ofChange fcsSumsSpec)

/-- ITS FALSE NEIGHBOUR: 'it returns false'. Refute it at one input. -/
def fcsSumsWrong : ChangeSpec := { name := "fcsSums", fn := fun _ => fun
  | [d1, d2] => { results := [.lit (.bool false)], args := [d1, d2] }
  | _ => none }
def FcsSumsWrongFalsely : Prop := fcsSumsRow.holds Try.pinned (OpenSpec.ofChange fcsSumsWrong)

/-- 'catwalklaw09.FcsFinds': WHATEVER THE INPUT: true; the input reads as it did. -/
def fcsFindsSpec : ChangeSpec := { name := "fcsFinds", fn := fun _ => fun
  | [d1, d2, d3] => { results := [.lit (.bool true)], args := [d1, d2, d3] }
  | _ => none }
def fcsFindsRow : OpenClaim := { program := "ythckpogalolgpaa", sum := "8f3da3a64ee2f6a529a0e0e993cb7a6641dab3d27d46bf159ba2b5e2854930ce", func := "catwalk/catwalklaw09.FcsFinds", spec := "fcsFinds", apart := false }
def FcsFindsSaid : Prop := fcsFindsRow.holds Try.pinned (OpenSpec.ofChange fcsFindsSpec)

/-- ITS FALSE NEIGHBOUR: 'it returns false'. Refute it at one input. -/
def fcsFindsWrong : ChangeSpec := { name := "fcsFinds", fn := fun _ => fun
  | [d1, d2, d3] => { results := [.lit (.bool false)], args := [d1, d2, d3] }
  | _ => none }
def FcsFindsWrongFalsely : Prop := fcsFindsRow.holds Try.pinned (OpenSpec.ofChange fcsFindsWrong)

/-- 'catwalklaw09.FcsSeals': WHATEVER THE INPUT: true; the input reads as it did. -/
def fcsSealsSpec : ChangeSpec := { name := "fcsSeals", fn := fun _ => fun
  | [d] => { results := [.lit (.bool true)], args := [d] }
  | _ => none }
def fcsSealsRow : OpenClaim := { program := "ythckpogalolgpaa", sum := "8f3da3a64ee2f6a529a0e0e993cb7a6641dab3d27d46bf159ba2b5e2854930ce", func := "catwalk/catwalklaw09.FcsSeals", spec := "fcsSeals", apart := false }
def FcsSealsSaid : Prop := fcsSealsRow.holds Try.pinned (OpenSpec.ofChange fcsSealsSpec)

/-- ITS FALSE NEIGHBOUR: 'it returns false'. Refute it at one input. -/
def fcsSealsWrong : ChangeSpec := { name := "fcsSeals", fn := fun _ => fun
  | [d] => { results := [.lit (.bool false)], args := [d] }
  | _ => none }
def FcsSealsWrongFalsely : Prop := fcsSealsRow.holds Try.pinned (OpenSpec.ofChange fcsSealsWrong)

/- THE SECOND FORM. 'bulk': how many values and letters a reading holds, each counted each time it is reached (what is shared counts as often as it is met; a slice's spare places count too). A statement '..UptoSaid' is the law's where the arguments, and the package variables that the reading takes, are together of bulk at most 1048576: NARROWER than '..Said'. Prove '..Said' where nothing that the law and all that it calls make is longer than what came in: it says more and counts as full. Else prove '..UptoSaid'. A law counts once. -/
mutual
def uptoBulk {H : Type} : DataW H → Nat
  | .lit (.string bytes) => bytes.length + 1
  | .lit _ => 1
  | .nil => 1
  | .ptr d => uptoBulk d + 1
  | .slice elems spare => uptoBulkAll elems + uptoBulkAll spare + 1
  | .agg parts => uptoBulkAll parts + 1
  | .iface _ d => uptoBulk d + 1
  | .map entries => uptoBulkEntries entries + 1
  | .held _ => 1
def uptoBulkAll {H : Type} : List (DataW H) → Nat
  | [] => 0
  | d :: r => uptoBulk d + uptoBulkAll r
def uptoBulkEntries {H : Type} : List (Lit × DataW H) → Nat
  | [] => 0
  | x :: r => uptoBulkEntry x + uptoBulkEntries r
def uptoBulkEntry {H : Type} : Lit × DataW H → Nat
  | (.string bytes, d) => bytes.length + uptoBulk d + 1
  | (_, d) => uptoBulk d + 1
 end
def uptoSmall : (H : Type) → List (DataW H) → Bool := fun _ ds => decide (uptoBulkAll ds ≤ 1048576)
def OpenSpec.upto (s : _root_.Go.ChangeSpec) : _root_.Go.OpenSpec := { _root_.Go.OpenSpec.ofChange s with cond := some uptoSmall }

/-- 'catwalklaw09.FcsSums', WHERE WHAT IT READS IS OF BULK AT MOST 1048576: true; the input reads as it did. -/
def fcsSumsUptoRow : OpenClaim := { program := "ythckpogalolgpaa", sum := "8f3da3a64ee2f6a529a0e0e993cb7a6641dab3d27d46bf159ba2b5e2854930ce", func := "catwalk/catwalklaw09.FcsSums", spec := "fcsSums", apart := false, narrowed := true }
def FcsSumsUptoSaid : Prop := fcsSumsUptoRow.holds Try.pinned (OpenSpec.upto fcsSumsSpec)

/-- 'catwalklaw09.FcsFinds', WHERE WHAT IT READS IS OF BULK AT MOST 1048576: true; the input reads as it did. -/
def fcsFindsUptoRow : OpenClaim := { program := "ythckpogalolgpaa", sum := "8f3da3a64ee2f6a529a0e0e993cb7a6641dab3d27d46bf159ba2b5e2854930ce", func := "catwalk/catwalklaw09.FcsFinds", spec := "fcsFinds", apart := false, narrowed := true }
def FcsFindsUptoSaid : Prop := fcsFindsUptoRow.holds Try.pinned (OpenSpec.upto fcsFindsSpec)

/-- 'catwalklaw09.FcsSeals', WHERE WHAT IT READS IS OF BULK AT MOST 1048576: true; the input reads as it did. -/
def fcsSealsUptoRow : OpenClaim := { program := "ythckpogalolgpaa", sum := "8f3da3a64ee2f6a529a0e0e993cb7a6641dab3d27d46bf159ba2b5e2854930ce", func := "catwalk/catwalklaw09.FcsSeals", spec := "fcsSeals", apart := false, narrowed := true }
def FcsSealsUptoSaid : Prop := fcsSealsUptoRow.holds Try.pinned (OpenSpec.upto fcsSealsSpec)

end Rows
end Go.Proofs.Ythckpogalolgpaa
