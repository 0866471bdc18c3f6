/- What is proved: a cut of a string. No conditions. -/
import Derived.Test.YtopeanaalnjghaaCut
namespace Go.Proofs.Ytopeanaalnjghaa
open Go.RowKit

/-- A cut of a string is the string of its list's cut. -/
theorem cut_str (s : ByteArray) (i j : Nat) : s.extract i j = str (((sb s).take j).drop i) := by
  rw [← sb_extract, str_sb]
end Go.Proofs.Ytopeanaalnjghaa
