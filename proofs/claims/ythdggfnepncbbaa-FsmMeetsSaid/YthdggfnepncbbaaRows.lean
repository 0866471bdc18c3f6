/-
  No cell of these rows narrows 'for every input' (looked for: loops, veiled, ifaces, maps, wideKeys, modest, calm, conditions, laid).
  DERIVED. THE GIVEN ROWS OF THIS SEAT. 3 by the template 'for every input the law returns true; each argument reads behind the call as it read before'; 0 by the template 'total and deterministic' (their statements: YthdggfnepncbbaaTotals.lean).
  GIVEN WITH THE SEED: the statements are not yours to turn. If you find one false, say at which input.
  Laid BY PROGRAM, IN A SANDBOX (cutbox-rows.mjs): the forced cells as the released guide's own fill.sh prints them over the translation ea78340311bc14b9… (all of the seat's roots in one cut). By AI agents, Wed Nov 11 2026. No macro, syntax, notation, axiom, sorry.
-/
import Derived.Test.YthdggfnepncbbaaChecked
import GoSem.Claim
import GoSem.ClaimJoined
import GoSem.ClaimMapViews
import Derived.JoinedTies
import Derived.KernelRfl
namespace Go.Proofs.Ythdggfnepncbbaa
/- THE CELL 'sum', in the pinned program and in every row, IS THE sha256 OF THE DUMP (.gsa) THAT YthdggfnepncbbaaProg.lean LOADS. Nothing in Lean hashes anything: it is a label: what it is worth is what the hold of that sum in a sandbox is worth. -/
noncomputable def Try.pinned : Pinned := { name := "ythdggfnepncbbaa", sum := "ea78340311bc14b931a0c97709a859e6463995de67698de82b19abe81575156b", checked := Try.checked }
namespace Rows
def none {H : Type} : Left H := { results := [], args := [] }

/-- 'catwalklaw21.FsmUps': WHATEVER THE INPUT: true; the input reads as it did. -/
def fsmUpsSpec : ChangeSpec := { name := "fsmUps", fn := fun _ => fun
  | [d1, d2] => { results := [.lit (.bool true)], args := [d1, d2] }
  | _ => none }
def fsmUpsRow : OpenClaim := { program := "ythdggfnepncbbaa", sum := "ea78340311bc14b931a0c97709a859e6463995de67698de82b19abe81575156b", func := "catwalk/catwalklaw21.FsmUps", spec := "fsmUps", apart := false }
def FsmUpsSaid : Prop := fsmUpsRow.holds Try.pinned (OpenSpec.ofChange fsmUpsSpec)

/-- ITS FALSE NEIGHBOUR: 'it returns false'. Refute it at one input. -/
def fsmUpsWrong : ChangeSpec := { name := "fsmUps", fn := fun _ => fun
  | [d1, d2] => { results := [.lit (.bool false)], args := [d1, d2] }
  | _ => none }
def FsmUpsWrongFalsely : Prop := fsmUpsRow.holds Try.pinned (OpenSpec.ofChange fsmUpsWrong)

/-- 'catwalklaw21.FsmMeets': WHATEVER THE INPUT: true; the input reads as it did. -/
def fsmMeetsSpec : ChangeSpec := { name := "fsmMeets", fn := fun _ => fun
  | [d] => { results := [.lit (.bool true)], args := [d] }
  | _ => none }
def fsmMeetsRow : OpenClaim := { program := "ythdggfnepncbbaa", sum := "ea78340311bc14b931a0c97709a859e6463995de67698de82b19abe81575156b", func := "catwalk/catwalklaw21.FsmMeets", spec := "fsmMeets", apart := false }
def FsmMeetsSaid : Prop := fsmMeetsRow.holds Try.pinned (OpenSpec.ofChange fsmMeetsSpec)

/-- ITS FALSE NEIGHBOUR: 'it returns false'. Refute it at one input. -/
def fsmMeetsWrong : ChangeSpec := { name := "fsmMeets", fn := fun _ => fun
  | [d] => { results := [.lit (.bool false)], args := [d] }
  | _ => none }
def FsmMeetsWrongFalsely : Prop := fsmMeetsRow.holds Try.pinned (OpenSpec.ofChange fsmMeetsWrong)

/-- 'catwalklaw21.FsmSteps': WHATEVER THE INPUT: true; the input reads as it did. -/
def fsmStepsSpec : ChangeSpec := { name := "fsmSteps", fn := fun _ => fun
  | [d1, d2, d3] => { results := [.lit (.bool true)], args := [d1, d2, d3] }
  | _ => none }
def fsmStepsRow : OpenClaim := { program := "ythdggfnepncbbaa", sum := "ea78340311bc14b931a0c97709a859e6463995de67698de82b19abe81575156b", func := "catwalk/catwalklaw21.FsmSteps", spec := "fsmSteps", apart := false }
def FsmStepsSaid : Prop := fsmStepsRow.holds Try.pinned (OpenSpec.ofChange fsmStepsSpec)

/-- ITS FALSE NEIGHBOUR: 'it returns false'. Refute it at one input. -/
def fsmStepsWrong : ChangeSpec := { name := "fsmSteps", fn := fun _ => fun
  | [d1, d2, d3] => { results := [.lit (.bool false)], args := [d1, d2, d3] }
  | _ => none }
def FsmStepsWrongFalsely : Prop := fsmStepsRow.holds Try.pinned (OpenSpec.ofChange fsmStepsWrong)

/- THE SECOND FORM. 'bulk': how many values and letters a reading holds, each counted each time it is reached (what is shared counts as often as it is met; a slice's spare places count too). A statement '..UptoSaid' is the law's where the arguments, and the package variables that the reading takes, are together of bulk at most 1048576: NARROWER than '..Said'. Prove '..Said' where nothing that the law and all that it calls make is longer than what came in: it says more and counts as full. Else prove '..UptoSaid'. A law counts once. -/
mutual
def uptoBulk {H : Type} : DataW H → Nat
  | .lit (.string bytes) => bytes.length + 1
  | .lit _ => 1
  | .nil => 1
  | .ptr d => uptoBulk d + 1
  | .slice elems spare => uptoBulkAll elems + uptoBulkAll spare + 1
  | .agg parts => uptoBulkAll parts + 1
  | .iface _ d => uptoBulk d + 1
  | .map entries => uptoBulkEntries entries + 1
  | .held _ => 1
def uptoBulkAll {H : Type} : List (DataW H) → Nat
  | [] => 0
  | d :: r => uptoBulk d + uptoBulkAll r
def uptoBulkEntries {H : Type} : List (Lit × DataW H) → Nat
  | [] => 0
  | x :: r => uptoBulkEntry x + uptoBulkEntries r
def uptoBulkEntry {H : Type} : Lit × DataW H → Nat
  | (.string bytes, d) => bytes.length + uptoBulk d + 1
  | (_, d) => uptoBulk d + 1
 end
def uptoSmall : (H : Type) → List (DataW H) → Bool := fun _ ds => decide (uptoBulkAll ds ≤ 1048576)
def OpenSpec.upto (s : _root_.Go.ChangeSpec) : _root_.Go.OpenSpec := { _root_.Go.OpenSpec.ofChange s with cond := some uptoSmall }

/-- 'catwalklaw21.FsmUps', WHERE WHAT IT READS IS OF BULK AT MOST 1048576: true; the input reads as it did. -/
def fsmUpsUptoRow : OpenClaim := { program := "ythdggfnepncbbaa", sum := "ea78340311bc14b931a0c97709a859e6463995de67698de82b19abe81575156b", func := "catwalk/catwalklaw21.FsmUps", spec := "fsmUps", apart := false, narrowed := true }
def FsmUpsUptoSaid : Prop := fsmUpsUptoRow.holds Try.pinned (OpenSpec.upto fsmUpsSpec)

/-- 'catwalklaw21.FsmMeets', WHERE WHAT IT READS IS OF BULK AT MOST 1048576: true; the input reads as it did. -/
def fsmMeetsUptoRow : OpenClaim := { program := "ythdggfnepncbbaa", sum := "ea78340311bc14b931a0c97709a859e6463995de67698de82b19abe81575156b", func := "catwalk/catwalklaw21.FsmMeets", spec := "fsmMeets", apart := false, narrowed := true }
def FsmMeetsUptoSaid : Prop := fsmMeetsUptoRow.holds Try.pinned (OpenSpec.upto fsmMeetsSpec)

/-- 'catwalklaw21.FsmSteps', WHERE WHAT IT READS IS OF BULK AT MOST 1048576: true; the input reads as it did. -/
def fsmStepsUptoRow : OpenClaim := { program := "ythdggfnepncbbaa", sum := "ea78340311bc14b931a0c97709a859e6463995de67698de82b19abe81575156b", func := "catwalk/catwalklaw21.FsmSteps", spec := "fsmSteps", apart := false, narrowed := true }
def FsmStepsUptoSaid : Prop := fsmStepsUptoRow.holds Try.pinned (OpenSpec.upto fsmStepsSpec)

end Rows
end Go.Proofs.Ythdggfnepncbbaa
