/- What is proved: the byte of a string at a place. No conditions but the place. -/
import Derived.Test.YtopeanaalnjghaaStr
namespace Go.Proofs.Ytopeanaalnjghaa
open Go.RowKit

theorem sb_at (s : ByteArray) (i : Nat) (h : i < s.size) : (s[i]'h).toNat = nth (sb s) i := by
  rw [nth_eq (sb s) i (by rw [sb_len]; exact h)]
  simp [sb, ByteArray.getElem_eq_getElem_data]

end Go.Proofs.Ytopeanaalnjghaa
