/- What is proved: empty strings. No conditions. -/
import Derived.Test.YtopeanaalnjghaaStr
namespace Go.Proofs.Ytopeanaalnjghaa
open Go.RowKit

theorem str_empty (x : List Nat) : (str x).toList.isEmpty = x.isEmpty := by
  rw [ByteArray.toList_eq]
  cases x <;> simp [str]
theorem str_eq_nil (x : List Nat) : ((str x).toList == ([] : List UInt8)) = x.isEmpty := by
  rw [ByteArray.toList_eq]
  cases x <;> simp [str]
end Go.Proofs.Ytopeanaalnjghaa
