/-
  No cell of these rows narrows 'for every input' (looked for: loops, veiled, ifaces, maps, wideKeys, modest, calm, conditions, laid).
  DERIVED. THE GIVEN ROWS OF THIS SEAT. 3 by the template 'for every input the law returns true; each argument reads behind the call as it read before'; 0 by the template 'total and deterministic' (their statements: YtknhniomphclhaaTotals.lean).
  GIVEN WITH THE SEED: the statements are not yours to turn. If you find one false, say at which input.
  Laid BY PROGRAM, IN A SANDBOX (cutbox-rows.mjs): the forced cells as the released guide's own fill.sh prints them over the translation ca60c6f91e885d23… (all of the seat's roots in one cut). By AI agents, Wed Nov 11 2026. No macro, syntax, notation, axiom, sorry.
-/
import Derived.Test.YtknhniomphclhaaChecked
import GoSem.Claim
import GoSem.ClaimJoined
import GoSem.ClaimMapViews
import Derived.JoinedTies
import Derived.KernelRfl
namespace Go.Proofs.Ytknhniomphclhaa
/- THE CELL 'sum', in the pinned program and in every row, IS THE sha256 OF THE DUMP (.gsa) THAT YtknhniomphclhaaProg.lean LOADS. Nothing in Lean hashes anything: it is a label: what it is worth is what the hold of that sum in a sandbox is worth. -/
noncomputable def Try.pinned : Pinned := { name := "ytknhniomphclhaa", sum := "ca60c6f91e885d2319d25e5262a1d611fc620d81998b4ee9c5a1773470ea7152", checked := Try.checked }
namespace Rows
def none {H : Type} : Left H := { results := [], args := [] }

/-- 'catwalklaw10.OptParses': WHATEVER THE INPUT: true; the input reads as it did. -/
def optParsesSpec : ChangeSpec := { name := "optParses", fn := fun _ => fun
  | [d] => { results := [.lit (.bool true)], args := [d] }
  | _ => none }
def optParsesRow : OpenClaim := { program := "ytknhniomphclhaa", sum := "ca60c6f91e885d2319d25e5262a1d611fc620d81998b4ee9c5a1773470ea7152", func := "catwalk/catwalklaw10.OptParses", spec := "optParses", apart := false }
def OptParsesSaid : Prop := optParsesRow.holds Try.pinned (OpenSpec.ofChange optParsesSpec)

/-- ITS FALSE NEIGHBOUR: 'it returns false'. Refute it at one input. -/
def optParsesWrong : ChangeSpec := { name := "optParses", fn := fun _ => fun
  | [d] => { results := [.lit (.bool false)], args := [d] }
  | _ => none }
def OptParsesWrongFalsely : Prop := optParsesRow.holds Try.pinned (OpenSpec.ofChange optParsesWrong)

/-- 'catwalklaw10.OptBuilds': WHATEVER THE INPUT: true; the input reads as it did. -/
def optBuildsSpec : ChangeSpec := { name := "optBuilds", fn := fun _ => fun
  | [d] => { results := [.lit (.bool true)], args := [d] }
  | _ => none }
def optBuildsRow : OpenClaim := { program := "ytknhniomphclhaa", sum := "ca60c6f91e885d2319d25e5262a1d611fc620d81998b4ee9c5a1773470ea7152", func := "catwalk/catwalklaw10.OptBuilds", spec := "optBuilds", apart := false }
def OptBuildsSaid : Prop := optBuildsRow.holds Try.pinned (OpenSpec.ofChange optBuildsSpec)

/-- ITS FALSE NEIGHBOUR: 'it returns false'. Refute it at one input. -/
def optBuildsWrong : ChangeSpec := { name := "optBuilds", fn := fun _ => fun
  | [d] => { results := [.lit (.bool false)], args := [d] }
  | _ => none }
def OptBuildsWrongFalsely : Prop := optBuildsRow.holds Try.pinned (OpenSpec.ofChange optBuildsWrong)

/-- 'catwalklaw10.OptFinds': WHATEVER THE INPUT: true; the input reads as it did. -/
def optFindsSpec : ChangeSpec := { name := "optFinds", fn := fun _ => fun
  | [d1, d2, d3] => { results := [.lit (.bool true)], args := [d1, d2, d3] }
  | _ => none }
def optFindsRow : OpenClaim := { program := "ytknhniomphclhaa", sum := "ca60c6f91e885d2319d25e5262a1d611fc620d81998b4ee9c5a1773470ea7152", func := "catwalk/catwalklaw10.OptFinds", spec := "optFinds", apart := false }
def OptFindsSaid : Prop := optFindsRow.holds Try.pinned (OpenSpec.ofChange optFindsSpec)

/-- ITS FALSE NEIGHBOUR: 'it returns false'. Refute it at one input. -/
def optFindsWrong : ChangeSpec := { name := "optFinds", fn := fun _ => fun
  | [d1, d2, d3] => { results := [.lit (.bool false)], args := [d1, d2, d3] }
  | _ => none }
def OptFindsWrongFalsely : Prop := optFindsRow.holds Try.pinned (OpenSpec.ofChange optFindsWrong)

/- THE SECOND FORM. 'bulk': how many values and letters a reading holds, each counted each time it is reached (what is shared counts as often as it is met; a slice's spare places count too). A statement '..UptoSaid' is the law's where the arguments, and the package variables that the reading takes, are together of bulk at most 1048576: NARROWER than '..Said'. Prove '..Said' where nothing that the law and all that it calls make is longer than what came in: it says more and counts as full. Else prove '..UptoSaid'. A law counts once. -/
mutual
def uptoBulk {H : Type} : DataW H → Nat
  | .lit (.string bytes) => bytes.length + 1
  | .lit _ => 1
  | .nil => 1
  | .ptr d => uptoBulk d + 1
  | .slice elems spare => uptoBulkAll elems + uptoBulkAll spare + 1
  | .agg parts => uptoBulkAll parts + 1
  | .iface _ d => uptoBulk d + 1
  | .map entries => uptoBulkEntries entries + 1
  | .held _ => 1
def uptoBulkAll {H : Type} : List (DataW H) → Nat
  | [] => 0
  | d :: r => uptoBulk d + uptoBulkAll r
def uptoBulkEntries {H : Type} : List (Lit × DataW H) → Nat
  | [] => 0
  | x :: r => uptoBulkEntry x + uptoBulkEntries r
def uptoBulkEntry {H : Type} : Lit × DataW H → Nat
  | (.string bytes, d) => bytes.length + uptoBulk d + 1
  | (_, d) => uptoBulk d + 1
 end
def uptoSmall : (H : Type) → List (DataW H) → Bool := fun _ ds => decide (uptoBulkAll ds ≤ 1048576)
def OpenSpec.upto (s : _root_.Go.ChangeSpec) : _root_.Go.OpenSpec := { _root_.Go.OpenSpec.ofChange s with cond := some uptoSmall }

/-- 'catwalklaw10.OptParses', WHERE WHAT IT READS IS OF BULK AT MOST 1048576: true; the input reads as it did. -/
def optParsesUptoRow : OpenClaim := { program := "ytknhniomphclhaa", sum := "ca60c6f91e885d2319d25e5262a1d611fc620d81998b4ee9c5a1773470ea7152", func := "catwalk/catwalklaw10.OptParses", spec := "optParses", apart := false, narrowed := true }
def OptParsesUptoSaid : Prop := optParsesUptoRow.holds Try.pinned (OpenSpec.upto optParsesSpec)

/-- 'catwalklaw10.OptBuilds', WHERE WHAT IT READS IS OF BULK AT MOST 1048576: true; the input reads as it did. -/
def optBuildsUptoRow : OpenClaim := { program := "ytknhniomphclhaa", sum := "ca60c6f91e885d2319d25e5262a1d611fc620d81998b4ee9c5a1773470ea7152", func := "catwalk/catwalklaw10.OptBuilds", spec := "optBuilds", apart := false, narrowed := true }
def OptBuildsUptoSaid : Prop := optBuildsUptoRow.holds Try.pinned (OpenSpec.upto optBuildsSpec)

/-- 'catwalklaw10.OptFinds', WHERE WHAT IT READS IS OF BULK AT MOST 1048576: true; the input reads as it did. -/
def optFindsUptoRow : OpenClaim := { program := "ytknhniomphclhaa", sum := "ca60c6f91e885d2319d25e5262a1d611fc620d81998b4ee9c5a1773470ea7152", func := "catwalk/catwalklaw10.OptFinds", spec := "optFinds", apart := false, narrowed := true }
def OptFindsUptoSaid : Prop := optFindsUptoRow.holds Try.pinned (OpenSpec.upto optFindsSpec)

end Rows
end Go.Proofs.Ytknhniomphclhaa
