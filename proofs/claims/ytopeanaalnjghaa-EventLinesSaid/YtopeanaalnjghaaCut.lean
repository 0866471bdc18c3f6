/- What is proved: a cut of a string, as a list of numbers. No conditions. -/
import Derived.Test.YtopeanaalnjghaaStr
namespace Go.Proofs.Ytopeanaalnjghaa
open Go.RowKit

theorem sb_extract (s : ByteArray) (i j : Nat) : sb (s.extract i j) = ((sb s).take j).drop i := by
  unfold sb
  rw [ByteArray.data_extract, Array.toList_extract, ← List.map_take, ← List.map_drop]
  simp [List.extract_eq_take_drop, List.drop_take]
end Go.Proofs.Ytopeanaalnjghaa
