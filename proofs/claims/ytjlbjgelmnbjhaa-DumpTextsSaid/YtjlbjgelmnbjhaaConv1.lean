/- What is proved: one byte as a string. No conditions. -/
import Derived.Test.YtjlbjgelmnbjhaaStr
import Derived.Test.YtjlbjgelmnbjhaaByte
namespace Go.Proofs.Ytjlbjgelmnbjhaa
open Go.RowKit

theorem conv1 (W : World) (z : Nat) (hz : z < 256) : (convert 22 9 (.slice (some ⟨W.heap.size, 0, none⟩) 1 1)).run Try.prog (W.alloc (.cells #[.int .u8 (z : Int)] 5)) = .ok (.string (str [z])) (W.alloc (.cells #[.int .u8 (z : Int)] 5)) :=
  conv_str Try.underlying22 Try.underlying5 Try.underlying9 (Row.lit' .u8 W 5 [z] _ _ _ rfl rfl rfl (by simp [maxLen]))
end Go.Proofs.Ytjlbjgelmnbjhaa
