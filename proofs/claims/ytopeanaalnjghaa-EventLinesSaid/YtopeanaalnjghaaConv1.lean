/- What is proved: one byte as a string. No conditions. -/
import Derived.Test.YtopeanaalnjghaaStr
import Derived.Test.YtopeanaalnjghaaByte
namespace Go.Proofs.Ytopeanaalnjghaa
open Go.RowKit

theorem conv1 (W : World) (z : Nat) (hz : z < 256) : (convert 23 9 (.slice (some ⟨W.heap.size, 0, none⟩) 1 1)).run Try.prog (W.alloc (.cells #[.int .u8 (z : Int)] 5)) = .ok (.string (str [z])) (W.alloc (.cells #[.int .u8 (z : Int)] 5)) :=
  conv_str Try.underlying23 Try.underlying5 Try.underlying9 (Row.lit' .u8 W 5 [z] _ _ _ rfl rfl rfl (by simp [maxLen]))
end Go.Proofs.Ytopeanaalnjghaa
