/-
  No cell of these rows narrows 'for every input' (looked for: loops, veiled, ifaces, maps, wideKeys, modest, calm, conditions, laid).
  DERIVED. THE GIVEN ROWS OF THIS SEAT. 3 by the template 'for every input the law returns true; each argument reads behind the call as it read before'; 0 by the template 'total and deterministic' (their statements: YtjlbjgelmnbjhaaTotals.lean).
  GIVEN WITH THE SEED: the statements are not yours to turn. If you find one false, say at which input.
  Laid BY PROGRAM, IN A SANDBOX (cutbox-rows.mjs): the forced cells as the released guide's own fill.sh prints them over the translation 95010c93115b0835… (all of the seat's roots in one cut). By AI agents, Wed Nov 11 2026. No macro, syntax, notation, axiom, sorry.
-/
import Derived.Test.YtjlbjgelmnbjhaaChecked
import GoSem.Claim
import GoSem.ClaimJoined
import GoSem.ClaimMapViews
import Derived.JoinedTies
import Derived.KernelRfl
namespace Go.Proofs.Ytjlbjgelmnbjhaa
/- THE CELL 'sum', in the pinned program and in every row, IS THE sha256 OF THE DUMP (.gsa) THAT YtjlbjgelmnbjhaaProg.lean LOADS. Nothing in Lean hashes anything: it is a label: what it is worth is what the hold of that sum in a sandbox is worth. -/
noncomputable def Try.pinned : Pinned := { name := "ytjlbjgelmnbjhaa", sum := "95010c93115b0835bf4dddb9770abeae1226ff62938d1762a64e35582f64231f", checked := Try.checked }
namespace Rows
def none {H : Type} : Left H := { results := [], args := [] }

/-- 'catwalklaw25.DumpLong': WHATEVER THE INPUT: true; the input reads as it did. -/
def dumpLongSpec : ChangeSpec := { name := "dumpLong", fn := fun _ => fun
  | [d1, d2] => { results := [.lit (.bool true)], args := [d1, d2] }
  | _ => none }
def dumpLongRow : OpenClaim := { program := "ytjlbjgelmnbjhaa", sum := "95010c93115b0835bf4dddb9770abeae1226ff62938d1762a64e35582f64231f", func := "catwalk/catwalklaw25.DumpLong", spec := "dumpLong", unfollowed := true, recurses := true, apart := false }
def DumpLongSaid : Prop := dumpLongRow.holds Try.pinned (OpenSpec.ofChange dumpLongSpec)

/-- ITS FALSE NEIGHBOUR: 'it returns false'. Refute it at one input. -/
def dumpLongWrong : ChangeSpec := { name := "dumpLong", fn := fun _ => fun
  | [d1, d2] => { results := [.lit (.bool false)], args := [d1, d2] }
  | _ => none }
def DumpLongWrongFalsely : Prop := dumpLongRow.holds Try.pinned (OpenSpec.ofChange dumpLongWrong)

/-- 'catwalklaw25.DumpReads': WHATEVER THE INPUT: true; the input reads as it did. -/
def dumpReadsSpec : ChangeSpec := { name := "dumpReads", fn := fun _ => fun
  | [d1, d2] => { results := [.lit (.bool true)], args := [d1, d2] }
  | _ => none }
def dumpReadsRow : OpenClaim := { program := "ytjlbjgelmnbjhaa", sum := "95010c93115b0835bf4dddb9770abeae1226ff62938d1762a64e35582f64231f", func := "catwalk/catwalklaw25.DumpReads", spec := "dumpReads", unfollowed := true, recurses := true, apart := false }
def DumpReadsSaid : Prop := dumpReadsRow.holds Try.pinned (OpenSpec.ofChange dumpReadsSpec)

/-- ITS FALSE NEIGHBOUR: 'it returns false'. Refute it at one input. -/
def dumpReadsWrong : ChangeSpec := { name := "dumpReads", fn := fun _ => fun
  | [d1, d2] => { results := [.lit (.bool false)], args := [d1, d2] }
  | _ => none }
def DumpReadsWrongFalsely : Prop := dumpReadsRow.holds Try.pinned (OpenSpec.ofChange dumpReadsWrong)

/-- 'catwalklaw25.DumpTexts': WHATEVER THE INPUT: true; the input reads as it did. -/
def dumpTextsSpec : ChangeSpec := { name := "dumpTexts", fn := fun _ => fun
  | [d] => { results := [.lit (.bool true)], args := [d] }
  | _ => none }
def dumpTextsRow : OpenClaim := { program := "ytjlbjgelmnbjhaa", sum := "95010c93115b0835bf4dddb9770abeae1226ff62938d1762a64e35582f64231f", func := "catwalk/catwalklaw25.DumpTexts", spec := "dumpTexts", unfollowed := true, recurses := true, apart := false }
def DumpTextsSaid : Prop := dumpTextsRow.holds Try.pinned (OpenSpec.ofChange dumpTextsSpec)

/-- ITS FALSE NEIGHBOUR: 'it returns false'. Refute it at one input. -/
def dumpTextsWrong : ChangeSpec := { name := "dumpTexts", fn := fun _ => fun
  | [d] => { results := [.lit (.bool false)], args := [d] }
  | _ => none }
def DumpTextsWrongFalsely : Prop := dumpTextsRow.holds Try.pinned (OpenSpec.ofChange dumpTextsWrong)

/- THE SECOND FORM. 'bulk': how many values and letters a reading holds, each counted each time it is reached (what is shared counts as often as it is met; a slice's spare places count too). A statement '..UptoSaid' is the law's where the arguments, and the package variables that the reading takes, are together of bulk at most 1048576: NARROWER than '..Said'. Prove '..Said' where nothing that the law and all that it calls make is longer than what came in: it says more and counts as full. Else prove '..UptoSaid'. A law counts once. -/
mutual
def uptoBulk {H : Type} : DataW H → Nat
  | .lit (.string bytes) => bytes.length + 1
  | .lit _ => 1
  | .nil => 1
  | .ptr d => uptoBulk d + 1
  | .slice elems spare => uptoBulkAll elems + uptoBulkAll spare + 1
  | .agg parts => uptoBulkAll parts + 1
  | .iface _ d => uptoBulk d + 1
  | .map entries => uptoBulkEntries entries + 1
  | .held _ => 1
def uptoBulkAll {H : Type} : List (DataW H) → Nat
  | [] => 0
  | d :: r => uptoBulk d + uptoBulkAll r
def uptoBulkEntries {H : Type} : List (Lit × DataW H) → Nat
  | [] => 0
  | x :: r => uptoBulkEntry x + uptoBulkEntries r
def uptoBulkEntry {H : Type} : Lit × DataW H → Nat
  | (.string bytes, d) => bytes.length + uptoBulk d + 1
  | (_, d) => uptoBulk d + 1
 end
def uptoSmall : (H : Type) → List (DataW H) → Bool := fun _ ds => decide (uptoBulkAll ds ≤ 1048576)
def OpenSpec.upto (s : _root_.Go.ChangeSpec) : _root_.Go.OpenSpec := { _root_.Go.OpenSpec.ofChange s with cond := some uptoSmall }

/-- 'catwalklaw25.DumpLong', WHERE WHAT IT READS IS OF BULK AT MOST 1048576: true; the input reads as it did. -/
def dumpLongUptoRow : OpenClaim := { program := "ytjlbjgelmnbjhaa", sum := "95010c93115b0835bf4dddb9770abeae1226ff62938d1762a64e35582f64231f", func := "catwalk/catwalklaw25.DumpLong", spec := "dumpLong", unfollowed := true, recurses := true, apart := false, narrowed := true }
def DumpLongUptoSaid : Prop := dumpLongUptoRow.holds Try.pinned (OpenSpec.upto dumpLongSpec)

/-- 'catwalklaw25.DumpReads', WHERE WHAT IT READS IS OF BULK AT MOST 1048576: true; the input reads as it did. -/
def dumpReadsUptoRow : OpenClaim := { program := "ytjlbjgelmnbjhaa", sum := "95010c93115b0835bf4dddb9770abeae1226ff62938d1762a64e35582f64231f", func := "catwalk/catwalklaw25.DumpReads", spec := "dumpReads", unfollowed := true, recurses := true, apart := false, narrowed := true }
def DumpReadsUptoSaid : Prop := dumpReadsUptoRow.holds Try.pinned (OpenSpec.upto dumpReadsSpec)

/-- 'catwalklaw25.DumpTexts', WHERE WHAT IT READS IS OF BULK AT MOST 1048576: true; the input reads as it did. -/
def dumpTextsUptoRow : OpenClaim := { program := "ytjlbjgelmnbjhaa", sum := "95010c93115b0835bf4dddb9770abeae1226ff62938d1762a64e35582f64231f", func := "catwalk/catwalklaw25.DumpTexts", spec := "dumpTexts", unfollowed := true, recurses := true, apart := false, narrowed := true }
def DumpTextsUptoSaid : Prop := dumpTextsUptoRow.holds Try.pinned (OpenSpec.upto dumpTextsSpec)

end Rows
end Go.Proofs.Ytjlbjgelmnbjhaa
