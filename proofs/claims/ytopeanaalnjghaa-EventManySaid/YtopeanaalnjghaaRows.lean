/-
  No cell of these rows narrows 'for every input' (looked for: loops, veiled, ifaces, maps, wideKeys, modest, calm, conditions, laid).
  DERIVED. THE GIVEN ROWS OF THIS SEAT. 4 by the template 'for every input the law returns true; each argument reads behind the call as it read before'; 0 by the template 'total and deterministic' (their statements: YtopeanaalnjghaaTotals.lean).
  GIVEN WITH THE SEED: the statements are not yours to turn. If you find one false, say at which input.
  Laid BY PROGRAM, IN A SANDBOX (cutbox-rows.mjs): the forced cells as the released guide's own fill.sh prints them over the translation 1eb5fc276d823d80… (all of the seat's roots in one cut). By AI agents, Wed Nov 11 2026. No macro, syntax, notation, axiom, sorry.
-/
import Derived.Test.YtopeanaalnjghaaChecked
import GoSem.Claim
import GoSem.ClaimJoined
import GoSem.ClaimMapViews
import Derived.JoinedTies
import Derived.KernelRfl
namespace Go.Proofs.Ytopeanaalnjghaa
/- THE CELL 'sum', in the pinned program and in every row, IS THE sha256 OF THE DUMP (.gsa) THAT YtopeanaalnjghaaProg.lean LOADS. Nothing in Lean hashes anything: it is a label: what it is worth is what the hold of that sum in a sandbox is worth. -/
noncomputable def Try.pinned : Pinned := { name := "ytopeanaalnjghaa", sum := "1eb5fc276d823d80eae91e6c445100850cb370a6d6956515048ce219e4a62ea4", checked := Try.checked }
namespace Rows
def none {H : Type} : Left H := { results := [], args := [] }

/-- 'catwalklaw45.EventLines': WHATEVER THE INPUT: true; the input reads as it did. -/
def eventLinesSpec : ChangeSpec := { name := "eventLines", fn := fun _ => fun
  | [d1, d2] => { results := [.lit (.bool true)], args := [d1, d2] }
  | _ => none }
def eventLinesRow : OpenClaim := { program := "ytopeanaalnjghaa", sum := "1eb5fc276d823d80eae91e6c445100850cb370a6d6956515048ce219e4a62ea4", func := "catwalk/catwalklaw45.EventLines", spec := "eventLines", recurses := true, apart := false }
def EventLinesSaid : Prop := eventLinesRow.holds Try.pinned (OpenSpec.ofChange eventLinesSpec)

/-- ITS FALSE NEIGHBOUR: 'it returns false'. Refute it at one input. -/
def eventLinesWrong : ChangeSpec := { name := "eventLines", fn := fun _ => fun
  | [d1, d2] => { results := [.lit (.bool false)], args := [d1, d2] }
  | _ => none }
def EventLinesWrongFalsely : Prop := eventLinesRow.holds Try.pinned (OpenSpec.ofChange eventLinesWrong)

/-- 'catwalklaw45.EventTexts': WHATEVER THE INPUT: true; the input reads as it did. -/
def eventTextsSpec : ChangeSpec := { name := "eventTexts", fn := fun _ => fun
  | [d1, d2] => { results := [.lit (.bool true)], args := [d1, d2] }
  | _ => none }
def eventTextsRow : OpenClaim := { program := "ytopeanaalnjghaa", sum := "1eb5fc276d823d80eae91e6c445100850cb370a6d6956515048ce219e4a62ea4", func := "catwalk/catwalklaw45.EventTexts", spec := "eventTexts", recurses := true, apart := false }
def EventTextsSaid : Prop := eventTextsRow.holds Try.pinned (OpenSpec.ofChange eventTextsSpec)

/-- ITS FALSE NEIGHBOUR: 'it returns false'. Refute it at one input. -/
def eventTextsWrong : ChangeSpec := { name := "eventTexts", fn := fun _ => fun
  | [d1, d2] => { results := [.lit (.bool false)], args := [d1, d2] }
  | _ => none }
def EventTextsWrongFalsely : Prop := eventTextsRow.holds Try.pinned (OpenSpec.ofChange eventTextsWrong)

/-- 'catwalklaw45.EventBack': WHATEVER THE INPUT: true; the input reads as it did. -/
def eventBackSpec : ChangeSpec := { name := "eventBack", fn := fun _ => fun
  | [d] => { results := [.lit (.bool true)], args := [d] }
  | _ => none }
def eventBackRow : OpenClaim := { program := "ytopeanaalnjghaa", sum := "1eb5fc276d823d80eae91e6c445100850cb370a6d6956515048ce219e4a62ea4", func := "catwalk/catwalklaw45.EventBack", spec := "eventBack", apart := false }
def EventBackSaid : Prop := eventBackRow.holds Try.pinned (OpenSpec.ofChange eventBackSpec)

/-- ITS FALSE NEIGHBOUR: 'it returns false'. Refute it at one input. -/
def eventBackWrong : ChangeSpec := { name := "eventBack", fn := fun _ => fun
  | [d] => { results := [.lit (.bool false)], args := [d] }
  | _ => none }
def EventBackWrongFalsely : Prop := eventBackRow.holds Try.pinned (OpenSpec.ofChange eventBackWrong)

/-- 'catwalklaw45.EventMany': WHATEVER THE INPUT: true; the input reads as it did. -/
def eventManySpec : ChangeSpec := { name := "eventMany", fn := fun _ => fun
  | [d1, d2] => { results := [.lit (.bool true)], args := [d1, d2] }
  | _ => none }
def eventManyRow : OpenClaim := { program := "ytopeanaalnjghaa", sum := "1eb5fc276d823d80eae91e6c445100850cb370a6d6956515048ce219e4a62ea4", func := "catwalk/catwalklaw45.EventMany", spec := "eventMany", apart := false }
def EventManySaid : Prop := eventManyRow.holds Try.pinned (OpenSpec.ofChange eventManySpec)

/-- ITS FALSE NEIGHBOUR: 'it returns false'. Refute it at one input. -/
def eventManyWrong : ChangeSpec := { name := "eventMany", fn := fun _ => fun
  | [d1, d2] => { results := [.lit (.bool false)], args := [d1, d2] }
  | _ => none }
def EventManyWrongFalsely : Prop := eventManyRow.holds Try.pinned (OpenSpec.ofChange eventManyWrong)

/- THE SECOND FORM. 'bulk': how many values and letters a reading holds, each counted each time it is reached (what is shared counts as often as it is met; a slice's spare places count too). A statement '..UptoSaid' is the law's where the arguments, and the package variables that the reading takes, are together of bulk at most 1048576: NARROWER than '..Said'. Prove '..Said' where nothing that the law and all that it calls make is longer than what came in: it says more and counts as full. Else prove '..UptoSaid'. A law counts once. -/
mutual
def uptoBulk {H : Type} : DataW H → Nat
  | .lit (.string bytes) => bytes.length + 1
  | .lit _ => 1
  | .nil => 1
  | .ptr d => uptoBulk d + 1
  | .slice elems spare => uptoBulkAll elems + uptoBulkAll spare + 1
  | .agg parts => uptoBulkAll parts + 1
  | .iface _ d => uptoBulk d + 1
  | .map entries => uptoBulkEntries entries + 1
  | .held _ => 1
def uptoBulkAll {H : Type} : List (DataW H) → Nat
  | [] => 0
  | d :: r => uptoBulk d + uptoBulkAll r
def uptoBulkEntries {H : Type} : List (Lit × DataW H) → Nat
  | [] => 0
  | x :: r => uptoBulkEntry x + uptoBulkEntries r
def uptoBulkEntry {H : Type} : Lit × DataW H → Nat
  | (.string bytes, d) => bytes.length + uptoBulk d + 1
  | (_, d) => uptoBulk d + 1
 end
def uptoSmall : (H : Type) → List (DataW H) → Bool := fun _ ds => decide (uptoBulkAll ds ≤ 1048576)
def OpenSpec.upto (s : _root_.Go.ChangeSpec) : _root_.Go.OpenSpec := { _root_.Go.OpenSpec.ofChange s with cond := some uptoSmall }

/-- 'catwalklaw45.EventLines', WHERE WHAT IT READS IS OF BULK AT MOST 1048576: true; the input reads as it did. -/
def eventLinesUptoRow : OpenClaim := { program := "ytopeanaalnjghaa", sum := "1eb5fc276d823d80eae91e6c445100850cb370a6d6956515048ce219e4a62ea4", func := "catwalk/catwalklaw45.EventLines", spec := "eventLines", recurses := true, apart := false, narrowed := true }
def EventLinesUptoSaid : Prop := eventLinesUptoRow.holds Try.pinned (OpenSpec.upto eventLinesSpec)

/-- 'catwalklaw45.EventTexts', WHERE WHAT IT READS IS OF BULK AT MOST 1048576: true; the input reads as it did. -/
def eventTextsUptoRow : OpenClaim := { program := "ytopeanaalnjghaa", sum := "1eb5fc276d823d80eae91e6c445100850cb370a6d6956515048ce219e4a62ea4", func := "catwalk/catwalklaw45.EventTexts", spec := "eventTexts", recurses := true, apart := false, narrowed := true }
def EventTextsUptoSaid : Prop := eventTextsUptoRow.holds Try.pinned (OpenSpec.upto eventTextsSpec)

/-- 'catwalklaw45.EventBack', WHERE WHAT IT READS IS OF BULK AT MOST 1048576: true; the input reads as it did. -/
def eventBackUptoRow : OpenClaim := { program := "ytopeanaalnjghaa", sum := "1eb5fc276d823d80eae91e6c445100850cb370a6d6956515048ce219e4a62ea4", func := "catwalk/catwalklaw45.EventBack", spec := "eventBack", apart := false, narrowed := true }
def EventBackUptoSaid : Prop := eventBackUptoRow.holds Try.pinned (OpenSpec.upto eventBackSpec)

/-- 'catwalklaw45.EventMany', WHERE WHAT IT READS IS OF BULK AT MOST 1048576: true; the input reads as it did. -/
def eventManyUptoRow : OpenClaim := { program := "ytopeanaalnjghaa", sum := "1eb5fc276d823d80eae91e6c445100850cb370a6d6956515048ce219e4a62ea4", func := "catwalk/catwalklaw45.EventMany", spec := "eventMany", apart := false, narrowed := true }
def EventManyUptoSaid : Prop := eventManyUptoRow.holds Try.pinned (OpenSpec.upto eventManySpec)

end Rows
end Go.Proofs.Ytopeanaalnjghaa
