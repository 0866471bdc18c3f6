/- What is proved: event.shape. No conditions. -/
import Derived.Test.YtopeanaalnjghaaLib
import Derived.Test.YtopeanaalnjghaaStr
import Derived.Lib.Hide
namespace Go.Proofs.Ytopeanaalnjghaa
open Go.RowKit

/-- The words of the kinds, and their parts. -/
def wdT : List (List Nat) := [[], [111, 112, 101, 110], [98, 121, 116, 101, 115], [115, 104, 117, 116], [103, 114, 101], [116, 105, 99, 107], [100, 114, 97, 119], [105, 112], [100, 105, 97, 108], [104, 97, 110, 103], [115, 116, 111, 112], [114, 101, 97, 99, 104], [108, 105, 110, 107]]
def ptT : List (List Nat) := [[], [99], [99, 98], [99], [99, 98], [110], [99, 110], [98], [99], [99, 110], [99], [99], [99, 110]]
def wdE (k : Int) : List Nat := if 1 ≤ k ∧ k ≤ 12 then wdT.getD k.toNat [] else []
def ptE (k : Int) : List Nat := if 1 ≤ k ∧ k ≤ 12 then ptT.getD k.toNat [] else []
theorem kind_cases (k : Int) : k = 1 ∨ k = 2 ∨ k = 3 ∨ k = 4 ∨ k = 5 ∨ k = 6 ∨ k = 7 ∨ k = 8 ∨ k = 9 ∨ k = 10 ∨ k = 11 ∨ k = 12 ∨ (¬ k = 1 ∧ ¬ k = 2 ∧ ¬ k = 3 ∧ ¬ k = 4 ∧ ¬ k = 5 ∧ ¬ k = 6 ∧ ¬ k = 7 ∧ ¬ k = 8 ∧ ¬ k = 9 ∧ ¬ k = 10 ∧ ¬ k = 11 ∧ ¬ k = 12 ∧ wdE k = [] ∧ ptE k = []) := by
  by_cases h : 1 ≤ k ∧ k ≤ 12
  · omega
  · have h1 : wdE k = [] := by unfold wdE; rw [if_neg h]
    have h2 : ptE k = [] := by unfold ptE; rw [if_neg h]
    have h3 : ¬ k = 1 ∧ ¬ k = 2 ∧ ¬ k = 3 ∧ ¬ k = 4 ∧ ¬ k = 5 ∧ ¬ k = 6 ∧ ¬ k = 7 ∧ ¬ k = 8 ∧ ¬ k = 9 ∧ ¬ k = 10 ∧ ¬ k = 11 ∧ ¬ k = 12 := by omega
    simp [h1, h2, h3]

set_option maxRecDepth 100000 in
set_option maxHeartbeats 2000000 in
theorem shape_any (k : Int) (w : World) : Calls Try.prog 18 #[.int .i64 k] w fun e w' => e = .returned (.tuple #[.string (str (wdE k)), .string (str (ptE k))]) ∧ w = w' := by
  rcases kind_cases k with rfl | rfl | rfl | rfl | rfl | rfl | rfl | rfl | rfl | rfl | rfl | rfl | h
  case inr.inr.inr.inr.inr.inr.inr.inr.inr.inr.inr.inr =>
    obtain ⟨h1, h2, h3, h4, h5, h6, h7, h8, h9, h10, h11, h12, e1, e2⟩ := h
    have d1 : decide (k = 1) = false := by simpa using h1
    have d2 : decide (k = 2) = false := by simpa using h2
    have d3 : decide (k = 3) = false := by simpa using h3
    have d4 : decide (k = 4) = false := by simpa using h4
    have d5 : decide (k = 5) = false := by simpa using h5
    have d6 : decide (k = 6) = false := by simpa using h6
    have d7 : decide (k = 7) = false := by simpa using h7
    have d8 : decide (k = 8) = false := by simpa using h8
    have d9 : decide (k = 9) = false := by simpa using h9
    have d10 : decide (k = 10) = false := by simpa using h10
    have d11 : decide (k = 11) = false := by simpa using h11
    have d12 : decide (k = 12) = false := by simpa using h12
    rw [e1, e2]
    go_enter Try.func18, Try.ntmps18
    go_wp2_with fail
    go_ret2
    exact ⟨rfl, rfl⟩
  all_goals
    go_enter Try.func18, Try.ntmps18
    go_wp2_with fail
    go_ret2
    exact ⟨rfl, rfl⟩
end Go.Proofs.Ytopeanaalnjghaa
