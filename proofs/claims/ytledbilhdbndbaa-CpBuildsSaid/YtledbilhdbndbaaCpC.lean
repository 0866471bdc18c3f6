/- What is proved: the chapter's example holds. No conditions. -/
import Derived.Test.YtledbilhdbndbaaBuild
import Derived.Test.YtledbilhdbndbaaEqual
namespace Go.Proofs.Ytledbilhdbndbaa
open Go.RowKit

set_option maxHeartbeats 1000000 in
theorem alive_any (w : World) : Calls Try.prog 8 #[] w fun e w' => e = .returned (.bool true) ∧ Old w w' := by
  go_enter Try.func8, Try.ntmps8
  go_wp2_with fail
  refine (build_any 5 9 none 0 0 [] _ (Row.nil _ _) (by omega) (by omega) (by omega)).mono ?_
  rintro e w2 ⟨v2, rfl, hown2, h2⟩
  obtain ⟨a2, c2, rfl, hrow2⟩ := hown2.row
  have he2 : buildOf 5 9 [] = [5, 9, 0, 4] := by rfl
  rw [he2] at hrow2
  rw [he2]
  go_wp2_with fail
  refine (equal_any a2 _ _ c2 _ _ [5, 9, 0, 4] [5, 9, 0, 4] _ (hrow2.alloc _) (Row.lit' .u8 _ 5 [5, 9, 0, 4] _ _ _ rfl rfl (by simp) (by simp [maxLen]))).mono ?_
  rintro e w3 ⟨rfl, h3⟩
  go_wp2_with fail
  go_ret
  exact ⟨rfl, Old.trans h2 (Old.trans (Old.alloc _ _) h3)⟩
end Go.Proofs.Ytledbilhdbndbaa
