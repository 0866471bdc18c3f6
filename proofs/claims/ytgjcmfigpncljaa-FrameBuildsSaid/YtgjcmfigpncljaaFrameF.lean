/- What is proved: the chapter's example holds. No conditions. -/
import Derived.Test.YtgjcmfigpncljaaFrameD
import Derived.Test.YtgjcmfigpncljaaEqual
namespace Go.Proofs.Ytgjcmfigpncljaa
open Go.RowKit

set_option maxHeartbeats 1000000 in
theorem alive_any (w : World) : Calls Try.prog 10 #[] w fun e w' => e = .returned (.bool true) ∧ Old w w' := by
  go_enter Try.func10, Try.ntmps10
  go_wp2_with fail
  have hO := Old.alloc w (.cells #[.int .u8 69] 5)
  refine (build_any 33 _ 1 1 [69] true true _ (Row.lit' .u8 _ 5 [69] _ _ _ rfl rfl (by simp) (by simp [maxLen])) (by omega) (by omega)).mono ?_
  rintro e w2 ⟨v2, rfl, hown2, h2⟩
  have o2 := Old.trans hO h2
  obtain ⟨a2, c2, rfl, hrow2⟩ := hown2.row
  have he2 : frBuild 33 [69] true true = [33, 69] := by rfl
  rw [he2] at hrow2
  rw [he2]
  go_wp2_with fail
  refine (equal_any a2 _ _ c2 _ _ [33, 69] [33, 69] _ (hrow2.alloc _) (Row.lit' .u8 _ 5 [33, 69] _ _ _ rfl rfl (by simp) (by simp [maxLen]))).mono ?_
  rintro e w3 ⟨rfl, h3⟩
  go_wp2_with fail
  go_ret
  exact ⟨rfl, Old.trans o2 (Old.trans (Old.alloc _ _) h3)⟩
end Go.Proofs.Ytgjcmfigpncljaa
