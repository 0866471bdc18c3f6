/- What is proved: the chapter's example holds. No conditions. -/
import Derived.Test.YtippiojhfdnlgaaChapB
namespace Go.Proofs.Ytippiojhfdnlgaa
open Go.RowKit

set_option maxHeartbeats 1000000 in
theorem alive_any (w : World) : Calls Try.prog 10 #[] w fun e w' => e = .returned (.bool true) ∧ Old w w' := by
  go_enter Try.func10, Try.ntmps10
  go_wp2_with fail
  have hO := Old.alloc w (.cells #[.int .u8 9] 5)
  refine (make_any 1 7 _ 1 1 [9] (str [97]) _ (Row.lit' .u8 _ 5 [9] _ _ _ rfl rfl (by simp) (by simp [maxLen])) (.inl rfl) (by omega) (by omega) (by omega) (by simp [str_len])).mono ?_
  rintro e w1 ⟨v1, rfl, hown1, h1⟩
  have o1 := Old.trans hO h1
  obtain ⟨a1, c1, hv1, hrow1⟩ := hown1.row
  have hl1 : ([1] ++ [9] ++ sb (str [97])).length = 3 := by rw [sb_str _ (by simp [Bytes])]; rfl
  have he1 : ([1] ++ [9] ++ sb (str [97])) = [1, 9, 97] := by rw [sb_str _ (by simp [Bytes])]; rfl
  rw [show [([9] : List Nat).length] = [1] from rfl] at *
  rw [hl1] at hv1 hrow1
  rw [he1] at hrow1
  subst hv1
  simp only [ctl]
  go_wp2_with fail
  refine (build_any 1 7 a1 3 c1 [1, 9, 97] _ (hrow1.alloc _) (by omega) (by omega) (by omega)).mono ?_
  rintro e w2 ⟨v2, rfl, hown2, h2⟩
  have o2 := Old.trans (Old.trans o1 (Old.alloc w1 _)) h2
  obtain ⟨a2, c2, rfl, hrow2⟩ := hown2.row
  have he2 : buildOf 1 7 [1, 9, 97] = [1, 7, 0, 7, 1, 9, 97] := by rfl
  rw [he2] at hrow2
  rw [he2]
  go_wp2_with fail
  refine (equal_any a2 _ _ c2 _ _ [1, 7, 0, 7, 1, 9, 97] [1, 7, 0, 7, 1, 9, 97] _ (hrow2.alloc _) (Row.lit' .u8 _ 5 [1, 7, 0, 7, 1, 9, 97] _ _ _ rfl rfl (by simp) (by simp [maxLen]))).mono ?_
  rintro e w3 ⟨rfl, h3⟩
  go_wp2_with fail
  go_ret
  exact ⟨rfl, Old.trans o2 (Old.trans (Old.alloc _ _) h3)⟩
end Go.Proofs.Ytippiojhfdnlgaa
