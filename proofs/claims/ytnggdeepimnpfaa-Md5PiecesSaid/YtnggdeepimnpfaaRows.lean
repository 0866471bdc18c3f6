/-
  No cell of these rows narrows 'for every input' (looked for: loops, veiled, ifaces, maps, wideKeys, modest, calm, conditions, laid).
  DERIVED. THE GIVEN ROWS OF THIS SEAT. 3 by the template 'for every input the law returns true; each argument reads behind the call as it read before'; 0 by the template 'total and deterministic' (their statements: YtnggdeepimnpfaaTotals.lean).
  GIVEN WITH THE SEED: the statements are not yours to turn. If you find one false, say at which input.
  Laid BY PROGRAM, IN A SANDBOX (cutbox-rows.mjs): the forced cells as the released guide's own fill.sh prints them over the translation 7ffe7616ea64db7f… (all of the seat's roots in one cut). By AI agents, Wed Nov 11 2026. No macro, syntax, notation, axiom, sorry.
-/
import Derived.Test.YtnggdeepimnpfaaChecked
import GoSem.Claim
import GoSem.ClaimJoined
import GoSem.ClaimMapViews
import Derived.JoinedTies
import Derived.KernelRfl
namespace Go.Proofs.Ytnggdeepimnpfaa
/- THE CELL 'sum', in the pinned program and in every row, IS THE sha256 OF THE DUMP (.gsa) THAT YtnggdeepimnpfaaProg.lean LOADS. Nothing in Lean hashes anything: it is a label: what it is worth is what the hold of that sum in a sandbox is worth. -/
noncomputable def Try.pinned : Pinned := { name := "ytnggdeepimnpfaa", sum := "7ffe7616ea64db7f75be50807ee2290ff3d1b2c7c91fc8f5045f3dae01b7e577", checked := Try.checked }
namespace Rows
def none {H : Type} : Left H := { results := [], args := [] }

/-- 'catwalklaw04.Md5Of': WHATEVER THE INPUT: true; the input reads as it did. -/
def md5OfSpec : ChangeSpec := { name := "md5Of", fn := fun _ => fun
  | [d] => { results := [.lit (.bool true)], args := [d] }
  | _ => none }
def md5OfRow : OpenClaim := { program := "ytnggdeepimnpfaa", sum := "7ffe7616ea64db7f75be50807ee2290ff3d1b2c7c91fc8f5045f3dae01b7e577", func := "catwalk/catwalklaw04.Md5Of", spec := "md5Of", apart := false }
def Md5OfSaid : Prop := md5OfRow.holds Try.pinned (OpenSpec.ofChange md5OfSpec)

/-- ITS FALSE NEIGHBOUR: 'it returns false'. Refute it at one input. -/
def md5OfWrong : ChangeSpec := { name := "md5Of", fn := fun _ => fun
  | [d] => { results := [.lit (.bool false)], args := [d] }
  | _ => none }
def Md5OfWrongFalsely : Prop := md5OfRow.holds Try.pinned (OpenSpec.ofChange md5OfWrong)

/-- 'catwalklaw04.Md5Pieces': WHATEVER THE INPUT: true; the input reads as it did. -/
def md5PiecesSpec : ChangeSpec := { name := "md5Pieces", fn := fun _ => fun
  | [d] => { results := [.lit (.bool true)], args := [d] }
  | _ => none }
def md5PiecesRow : OpenClaim := { program := "ytnggdeepimnpfaa", sum := "7ffe7616ea64db7f75be50807ee2290ff3d1b2c7c91fc8f5045f3dae01b7e577", func := "catwalk/catwalklaw04.Md5Pieces", spec := "md5Pieces", apart := false }
def Md5PiecesSaid : Prop := md5PiecesRow.holds Try.pinned (OpenSpec.ofChange md5PiecesSpec)

/-- ITS FALSE NEIGHBOUR: 'it returns false'. Refute it at one input. -/
def md5PiecesWrong : ChangeSpec := { name := "md5Pieces", fn := fun _ => fun
  | [d] => { results := [.lit (.bool false)], args := [d] }
  | _ => none }
def Md5PiecesWrongFalsely : Prop := md5PiecesRow.holds Try.pinned (OpenSpec.ofChange md5PiecesWrong)

/-- 'catwalklaw04.Md5Same': WHATEVER THE INPUT: true; the input reads as it did. -/
def md5SameSpec : ChangeSpec := { name := "md5Same", fn := fun _ => fun
  | [d1, d2] => { results := [.lit (.bool true)], args := [d1, d2] }
  | _ => none }
def md5SameRow : OpenClaim := { program := "ytnggdeepimnpfaa", sum := "7ffe7616ea64db7f75be50807ee2290ff3d1b2c7c91fc8f5045f3dae01b7e577", func := "catwalk/catwalklaw04.Md5Same", spec := "md5Same", apart := false }
def Md5SameSaid : Prop := md5SameRow.holds Try.pinned (OpenSpec.ofChange md5SameSpec)

/-- ITS FALSE NEIGHBOUR: 'it returns false'. Refute it at one input. -/
def md5SameWrong : ChangeSpec := { name := "md5Same", fn := fun _ => fun
  | [d1, d2] => { results := [.lit (.bool false)], args := [d1, d2] }
  | _ => none }
def Md5SameWrongFalsely : Prop := md5SameRow.holds Try.pinned (OpenSpec.ofChange md5SameWrong)

/- THE SECOND FORM. 'bulk': how many values and letters a reading holds, each counted each time it is reached (what is shared counts as often as it is met; a slice's spare places count too). A statement '..UptoSaid' is the law's where the arguments, and the package variables that the reading takes, are together of bulk at most 1048576: NARROWER than '..Said'. Prove '..Said' where nothing that the law and all that it calls make is longer than what came in: it says more and counts as full. Else prove '..UptoSaid'. A law counts once. -/
mutual
def uptoBulk {H : Type} : DataW H → Nat
  | .lit (.string bytes) => bytes.length + 1
  | .lit _ => 1
  | .nil => 1
  | .ptr d => uptoBulk d + 1
  | .slice elems spare => uptoBulkAll elems + uptoBulkAll spare + 1
  | .agg parts => uptoBulkAll parts + 1
  | .iface _ d => uptoBulk d + 1
  | .map entries => uptoBulkEntries entries + 1
  | .held _ => 1
def uptoBulkAll {H : Type} : List (DataW H) → Nat
  | [] => 0
  | d :: r => uptoBulk d + uptoBulkAll r
def uptoBulkEntries {H : Type} : List (Lit × DataW H) → Nat
  | [] => 0
  | x :: r => uptoBulkEntry x + uptoBulkEntries r
def uptoBulkEntry {H : Type} : Lit × DataW H → Nat
  | (.string bytes, d) => bytes.length + uptoBulk d + 1
  | (_, d) => uptoBulk d + 1
 end
def uptoSmall : (H : Type) → List (DataW H) → Bool := fun _ ds => decide (uptoBulkAll ds ≤ 1048576)
def OpenSpec.upto (s : _root_.Go.ChangeSpec) : _root_.Go.OpenSpec := { _root_.Go.OpenSpec.ofChange s with cond := some uptoSmall }

/-- 'catwalklaw04.Md5Of', WHERE WHAT IT READS IS OF BULK AT MOST 1048576: true; the input reads as it did. -/
def md5OfUptoRow : OpenClaim := { program := "ytnggdeepimnpfaa", sum := "7ffe7616ea64db7f75be50807ee2290ff3d1b2c7c91fc8f5045f3dae01b7e577", func := "catwalk/catwalklaw04.Md5Of", spec := "md5Of", apart := false, narrowed := true }
def Md5OfUptoSaid : Prop := md5OfUptoRow.holds Try.pinned (OpenSpec.upto md5OfSpec)

/-- 'catwalklaw04.Md5Pieces', WHERE WHAT IT READS IS OF BULK AT MOST 1048576: true; the input reads as it did. -/
def md5PiecesUptoRow : OpenClaim := { program := "ytnggdeepimnpfaa", sum := "7ffe7616ea64db7f75be50807ee2290ff3d1b2c7c91fc8f5045f3dae01b7e577", func := "catwalk/catwalklaw04.Md5Pieces", spec := "md5Pieces", apart := false, narrowed := true }
def Md5PiecesUptoSaid : Prop := md5PiecesUptoRow.holds Try.pinned (OpenSpec.upto md5PiecesSpec)

/-- 'catwalklaw04.Md5Same', WHERE WHAT IT READS IS OF BULK AT MOST 1048576: true; the input reads as it did. -/
def md5SameUptoRow : OpenClaim := { program := "ytnggdeepimnpfaa", sum := "7ffe7616ea64db7f75be50807ee2290ff3d1b2c7c91fc8f5045f3dae01b7e577", func := "catwalk/catwalklaw04.Md5Same", spec := "md5Same", apart := false, narrowed := true }
def Md5SameUptoSaid : Prop := md5SameUptoRow.holds Try.pinned (OpenSpec.upto md5SameSpec)

end Rows
end Go.Proofs.Ytnggdeepimnpfaa
