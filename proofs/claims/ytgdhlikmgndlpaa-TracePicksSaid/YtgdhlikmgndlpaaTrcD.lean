/- What is proved: trace.word. No conditions. -/
import Derived.Test.YtgdhlikmgndlpaaLib
import Derived.Test.YtgdhlikmgndlpaaStr
namespace Go.Proofs.Ytgdhlikmgndlpaa
open Go.RowKit

/-- A kind's word, as bytes. -/
def wordL (k : Int) : List Nat :=
  if k = 1 then [98, 121, 116, 101, 115] else if k = 2 then [99, 108, 111, 115, 101] else if k = 3 then [103, 114, 101] else if k = 4 then [105, 112] else if k = 5 then [117, 112] else if k = 6 then [100, 111, 119, 110] else if k = 7 then [100, 114, 111, 112] else []

set_option maxHeartbeats 1000000 in
theorem word_any (k : Int) (w : World) :
    Calls Try.prog 18 #[.int .i64 k] w fun e w' => e = .returned (.string (str (wordL k))) ∧ Old w w' := by
  by_cases h1 : k < 1
  · have HF := Lib.hid (show wordL k = [] by unfold wordL; repeat rw [if_neg (by omega)])
    go_enter Try.func18, Try.ntmps18
    go_wp2_with fail
    go_ret
    exact ⟨by rw [HF.out]; rfl, Old.alloc _ _⟩
  · by_cases h2 : 8 ≤ k
    · have HF := Lib.hid (show wordL k = [] by unfold wordL; repeat rw [if_neg (by omega)])
      go_enter Try.func18, Try.ntmps18
      go_wp2_with fail
      go_ret
      exact ⟨by rw [HF.out]; rfl, Old.alloc _ _⟩
    · obtain h | h | h | h | h | h | h : k = 1 ∨ k = 2 ∨ k = 3 ∨ k = 4 ∨ k = 5 ∨ k = 6 ∨ k = 7 := by omega
      all_goals
        subst h
        clear h1 h2
        go_enter Try.func18, Try.ntmps18
        go_wp2_with fail
        go_ret
        exact ⟨rfl, Old.alloc _ _⟩
end Go.Proofs.Ytgdhlikmgndlpaa
