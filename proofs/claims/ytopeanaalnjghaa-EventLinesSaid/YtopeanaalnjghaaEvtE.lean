/- What is proved: the reference's shape of chapter 45. No conditions but that the words are bytes. -/
import Derived.Test.YtopeanaalnjghaaEvtA
import Derived.Test.YtopeanaalnjghaaEvtB
import Derived.Test.YtopeanaalnjghaaWords
import Derived.Lib.Hide
namespace Go.Proofs.Ytopeanaalnjghaa
open Go.RowKit

def shT : List (List Nat) := [[], [111, 112, 101, 110, 32, 99], [98, 121, 116, 101, 115, 32, 99, 32, 98], [115, 104, 117, 116, 32, 99], [103, 114, 101, 32, 99, 32, 98], [116, 105, 99, 107, 32, 110], [100, 114, 97, 119, 32, 99, 32, 110], [105, 112, 32, 98], [100, 105, 97, 108, 32, 99], [104, 97, 110, 103, 32, 99, 32, 110], [115, 116, 111, 112, 32, 99], [114, 101, 97, 99, 104, 32, 99], [108, 105, 110, 107, 32, 99, 32, 110]]
def shE (k : Int) : List Nat := if 1 ≤ k ∧ k ≤ 12 then shT.getD k.toNat [] else []
theorem sh_words (k : Int) : Bytes (shE k) ∧ words (shE k) = if wdE k = [] then [] else wdE k :: (ptE k).map fun x => [x] := by
  by_cases h : 1 ≤ k ∧ k ≤ 12
  · have : k = 1 ∨ k = 2 ∨ k = 3 ∨ k = 4 ∨ k = 5 ∨ k = 6 ∨ k = 7 ∨ k = 8 ∨ k = 9 ∨ k = 10 ∨ k = 11 ∨ k = 12 := by omega
    rcases this with rfl | rfl | rfl | rfl | rfl | rfl | rfl | rfl | rfl | rfl | rfl | rfl
    all_goals exact ⟨by simp [shE, shT, Bytes], by rfl⟩
  · have h1 : wdE k = [] := by unfold wdE; rw [if_neg h]
    have h2 : shE k = [] := by unfold shE; rw [if_neg h]
    rw [h1, h2]
    exact ⟨by simp [Bytes], by rfl⟩

set_option maxRecDepth 100000 in
set_option maxHeartbeats 2000000 in
theorem rshape_any (k : Int) (w : World) : Calls Try.prog 21 #[.int .i64 k] w fun e w' => e = .returned (.string (str (shE k))) ∧ Old w w' := by
  by_cases h : 1 ≤ k ∧ k ≤ 12
  · have : k = 1 ∨ k = 2 ∨ k = 3 ∨ k = 4 ∨ k = 5 ∨ k = 6 ∨ k = 7 ∨ k = 8 ∨ k = 9 ∨ k = 10 ∨ k = 11 ∨ k = 12 := by omega
    rcases this with rfl | rfl | rfl | rfl | rfl | rfl | rfl | rfl | rfl | rfl | rfl | rfl
    all_goals
      go_enter Try.func21, Try.ntmps21
      go_wp2
      go_ret
      exact ⟨rfl, Old.alloc _ _⟩
  · have h2 : shE k = [] := by unfold shE; rw [if_neg h]
    rw [h2]
    rcases (show k < 1 ∨ (¬ k < 1 ∧ 12 < k) by omega) with h1 | ⟨h1, h3⟩
    all_goals
      clear h h2
      go_enter Try.func21, Try.ntmps21
      go_wp2_with fail
      go_ret
      exact ⟨rfl, Old.alloc _ _⟩

end Go.Proofs.Ytopeanaalnjghaa
