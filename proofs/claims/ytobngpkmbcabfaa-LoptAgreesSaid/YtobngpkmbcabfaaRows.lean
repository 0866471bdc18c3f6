/-
  No cell of these rows narrows 'for every input' (looked for: loops, veiled, ifaces, maps, wideKeys, modest, calm, conditions, laid).
  DERIVED. THE GIVEN ROWS OF THIS SEAT. 4 by the template 'for every input the law returns true; each argument reads behind the call as it read before'; 0 by the template 'total and deterministic' (their statements: YtobngpkmbcabfaaTotals.lean).
  GIVEN WITH THE SEED: the statements are not yours to turn. If you find one false, say at which input.
  Laid BY PROGRAM, IN A SANDBOX (cutbox-rows.mjs): the forced cells as the released guide's own fill.sh prints them over the translation 312a81be78b3b88f… (all of the seat's roots in one cut). By AI agents, Wed Nov 11 2026. No macro, syntax, notation, axiom, sorry.
-/
import Derived.Test.YtobngpkmbcabfaaChecked
import GoSem.Claim
import GoSem.ClaimJoined
import GoSem.ClaimMapViews
import Derived.JoinedTies
import Derived.KernelRfl
namespace Go.Proofs.Ytobngpkmbcabfaa
/- THE CELL 'sum', in the pinned program and in every row, IS THE sha256 OF THE DUMP (.gsa) THAT YtobngpkmbcabfaaProg.lean LOADS. Nothing in Lean hashes anything: it is a label: what it is worth is what the hold of that sum in a sandbox is worth. -/
noncomputable def Try.pinned : Pinned := { name := "ytobngpkmbcabfaa", sum := "312a81be78b3b88fa46cfef5d789e1ecf49fa0f184c02423fa81c2c72c5c526e", checked := Try.checked }
namespace Rows
def none {H : Type} : Left H := { results := [], args := [] }

/-- 'catwalklaw34.LoptJudges': WHATEVER THE INPUT: true; the input reads as it did. -/
def loptJudgesSpec : ChangeSpec := { name := "loptJudges", fn := fun _ => fun
  | [d1, d2, d3] => { results := [.lit (.bool true)], args := [d1, d2, d3] }
  | _ => none }
def loptJudgesRow : OpenClaim := { program := "ytobngpkmbcabfaa", sum := "312a81be78b3b88fa46cfef5d789e1ecf49fa0f184c02423fa81c2c72c5c526e", func := "catwalk/catwalklaw34.LoptJudges", spec := "loptJudges", apart := false }
def LoptJudgesSaid : Prop := loptJudgesRow.holds Try.pinned (OpenSpec.ofChange loptJudgesSpec)

/-- ITS FALSE NEIGHBOUR: 'it returns false'. Refute it at one input. -/
def loptJudgesWrong : ChangeSpec := { name := "loptJudges", fn := fun _ => fun
  | [d1, d2, d3] => { results := [.lit (.bool false)], args := [d1, d2, d3] }
  | _ => none }
def LoptJudgesWrongFalsely : Prop := loptJudgesRow.holds Try.pinned (OpenSpec.ofChange loptJudgesWrong)

/-- 'catwalklaw34.LoptHears': WHATEVER THE INPUT: true; the input reads as it did. -/
def loptHearsSpec : ChangeSpec := { name := "loptHears", fn := fun _ => fun
  | [d1, d2] => { results := [.lit (.bool true)], args := [d1, d2] }
  | _ => none }
def loptHearsRow : OpenClaim := { program := "ytobngpkmbcabfaa", sum := "312a81be78b3b88fa46cfef5d789e1ecf49fa0f184c02423fa81c2c72c5c526e", func := "catwalk/catwalklaw34.LoptHears", spec := "loptHears", apart := false }
def LoptHearsSaid : Prop := loptHearsRow.holds Try.pinned (OpenSpec.ofChange loptHearsSpec)

/-- ITS FALSE NEIGHBOUR: 'it returns false'. Refute it at one input. -/
def loptHearsWrong : ChangeSpec := { name := "loptHears", fn := fun _ => fun
  | [d1, d2] => { results := [.lit (.bool false)], args := [d1, d2] }
  | _ => none }
def LoptHearsWrongFalsely : Prop := loptHearsRow.holds Try.pinned (OpenSpec.ofChange loptHearsWrong)

/-- 'catwalklaw34.LoptTells': WHATEVER THE INPUT: true; the input reads as it did. -/
def loptTellsSpec : ChangeSpec := { name := "loptTells", fn := fun _ => fun
  | [d1, d2] => { results := [.lit (.bool true)], args := [d1, d2] }
  | _ => none }
def loptTellsRow : OpenClaim := { program := "ytobngpkmbcabfaa", sum := "312a81be78b3b88fa46cfef5d789e1ecf49fa0f184c02423fa81c2c72c5c526e", func := "catwalk/catwalklaw34.LoptTells", spec := "loptTells", apart := false }
def LoptTellsSaid : Prop := loptTellsRow.holds Try.pinned (OpenSpec.ofChange loptTellsSpec)

/-- ITS FALSE NEIGHBOUR: 'it returns false'. Refute it at one input. -/
def loptTellsWrong : ChangeSpec := { name := "loptTells", fn := fun _ => fun
  | [d1, d2] => { results := [.lit (.bool false)], args := [d1, d2] }
  | _ => none }
def LoptTellsWrongFalsely : Prop := loptTellsRow.holds Try.pinned (OpenSpec.ofChange loptTellsWrong)

/-- 'catwalklaw34.LoptAgrees': WHATEVER THE INPUT: true; the input reads as it did. -/
def loptAgreesSpec : ChangeSpec := { name := "loptAgrees", fn := fun _ => fun
  | [d1, d2, d3] => { results := [.lit (.bool true)], args := [d1, d2, d3] }
  | _ => none }
def loptAgreesRow : OpenClaim := { program := "ytobngpkmbcabfaa", sum := "312a81be78b3b88fa46cfef5d789e1ecf49fa0f184c02423fa81c2c72c5c526e", func := "catwalk/catwalklaw34.LoptAgrees", spec := "loptAgrees", apart := false }
def LoptAgreesSaid : Prop := loptAgreesRow.holds Try.pinned (OpenSpec.ofChange loptAgreesSpec)

/-- ITS FALSE NEIGHBOUR: 'it returns false'. Refute it at one input. -/
def loptAgreesWrong : ChangeSpec := { name := "loptAgrees", fn := fun _ => fun
  | [d1, d2, d3] => { results := [.lit (.bool false)], args := [d1, d2, d3] }
  | _ => none }
def LoptAgreesWrongFalsely : Prop := loptAgreesRow.holds Try.pinned (OpenSpec.ofChange loptAgreesWrong)

/- THE SECOND FORM. 'bulk': how many values and letters a reading holds, each counted each time it is reached (what is shared counts as often as it is met; a slice's spare places count too). A statement '..UptoSaid' is the law's where the arguments, and the package variables that the reading takes, are together of bulk at most 1048576: NARROWER than '..Said'. Prove '..Said' where nothing that the law and all that it calls make is longer than what came in: it says more and counts as full. Else prove '..UptoSaid'. A law counts once. -/
mutual
def uptoBulk {H : Type} : DataW H → Nat
  | .lit (.string bytes) => bytes.length + 1
  | .lit _ => 1
  | .nil => 1
  | .ptr d => uptoBulk d + 1
  | .slice elems spare => uptoBulkAll elems + uptoBulkAll spare + 1
  | .agg parts => uptoBulkAll parts + 1
  | .iface _ d => uptoBulk d + 1
  | .map entries => uptoBulkEntries entries + 1
  | .held _ => 1
def uptoBulkAll {H : Type} : List (DataW H) → Nat
  | [] => 0
  | d :: r => uptoBulk d + uptoBulkAll r
def uptoBulkEntries {H : Type} : List (Lit × DataW H) → Nat
  | [] => 0
  | x :: r => uptoBulkEntry x + uptoBulkEntries r
def uptoBulkEntry {H : Type} : Lit × DataW H → Nat
  | (.string bytes, d) => bytes.length + uptoBulk d + 1
  | (_, d) => uptoBulk d + 1
 end
def uptoSmall : (H : Type) → List (DataW H) → Bool := fun _ ds => decide (uptoBulkAll ds ≤ 1048576)
def OpenSpec.upto (s : _root_.Go.ChangeSpec) : _root_.Go.OpenSpec := { _root_.Go.OpenSpec.ofChange s with cond := some uptoSmall }

/-- 'catwalklaw34.LoptJudges', WHERE WHAT IT READS IS OF BULK AT MOST 1048576: true; the input reads as it did. -/
def loptJudgesUptoRow : OpenClaim := { program := "ytobngpkmbcabfaa", sum := "312a81be78b3b88fa46cfef5d789e1ecf49fa0f184c02423fa81c2c72c5c526e", func := "catwalk/catwalklaw34.LoptJudges", spec := "loptJudges", apart := false, narrowed := true }
def LoptJudgesUptoSaid : Prop := loptJudgesUptoRow.holds Try.pinned (OpenSpec.upto loptJudgesSpec)

/-- 'catwalklaw34.LoptHears', WHERE WHAT IT READS IS OF BULK AT MOST 1048576: true; the input reads as it did. -/
def loptHearsUptoRow : OpenClaim := { program := "ytobngpkmbcabfaa", sum := "312a81be78b3b88fa46cfef5d789e1ecf49fa0f184c02423fa81c2c72c5c526e", func := "catwalk/catwalklaw34.LoptHears", spec := "loptHears", apart := false, narrowed := true }
def LoptHearsUptoSaid : Prop := loptHearsUptoRow.holds Try.pinned (OpenSpec.upto loptHearsSpec)

/-- 'catwalklaw34.LoptTells', WHERE WHAT IT READS IS OF BULK AT MOST 1048576: true; the input reads as it did. -/
def loptTellsUptoRow : OpenClaim := { program := "ytobngpkmbcabfaa", sum := "312a81be78b3b88fa46cfef5d789e1ecf49fa0f184c02423fa81c2c72c5c526e", func := "catwalk/catwalklaw34.LoptTells", spec := "loptTells", apart := false, narrowed := true }
def LoptTellsUptoSaid : Prop := loptTellsUptoRow.holds Try.pinned (OpenSpec.upto loptTellsSpec)

/-- 'catwalklaw34.LoptAgrees', WHERE WHAT IT READS IS OF BULK AT MOST 1048576: true; the input reads as it did. -/
def loptAgreesUptoRow : OpenClaim := { program := "ytobngpkmbcabfaa", sum := "312a81be78b3b88fa46cfef5d789e1ecf49fa0f184c02423fa81c2c72c5c526e", func := "catwalk/catwalklaw34.LoptAgrees", spec := "loptAgrees", apart := false, narrowed := true }
def LoptAgreesUptoSaid : Prop := loptAgreesUptoRow.holds Try.pinned (OpenSpec.upto loptAgreesSpec)

end Rows
end Go.Proofs.Ytobngpkmbcabfaa
