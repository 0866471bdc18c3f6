/- What is proved: the line that the reference names is that of event.Line (plain law). No conditions. -/
import Derived.Test.YtopeanaalnjghaaEvtD
namespace Go.Proofs.Ytopeanaalnjghaa
open Go.RowKit

def rlineE (k c n : Int) (b : List Nat) : List Nat :=
  if wdE k = [] then [] else if bareE c n b (ptE k) = true then (if c < 0 ∨ 3 < c ∨ n < 0 ∨ 4294967295 < n ∨ 2000 < b.length then [] else
    wdE k ++ (if hasL 99 (ptE k) = true then 32 :: dec c.toNat else []) ++ (if hasL 110 (ptE k) = true then 32 :: dec n.toNat else []) ++ (if hasL 98 (ptE k) = true then 32 :: 120 :: textOf b else [])) else []
theorem dec_ne (n : Nat) : dec n ≠ [] := by rw [dec]; split <;> simp
theorem pt_cases (k : Int) : wdE k = [] ∨ ptE k = [99] ∨ ptE k = [99, 98] ∨ ptE k = [110] ∨ ptE k = [99, 110] ∨ ptE k = [98] := by
  rcases kind_cases k with rfl | rfl | rfl | rfl | rfl | rfl | rfl | rfl | rfl | rfl | rfl | rfl | h
  case inr.inr.inr.inr.inr.inr.inr.inr.inr.inr.inr.inr => exact .inl h.2.2.2.2.2.2.2.2.2.2.2.2.1
  all_goals simp [ptE, ptT]
theorem line_eq (k c n : Int) (b : List Nat) : lineE k c n b = rlineE k c n b := by
  unfold lineE rlineE
  by_cases h0 : wdE k = []
  · rw [if_pos h0, if_pos h0]
  · rw [if_neg h0, if_neg h0]
    by_cases hB : bareE c n b (ptE k) = true
    · rw [if_pos hB, if_pos hB]
      have d1 := dec_ne c.toNat
      have d2 := dec_ne n.toNat
      rcases pt_cases k with h | h | h | h | h | h
      · exact absurd h h0
      all_goals
        rw [h] at hB ⊢
        simp only [bareE, hasL, List.any_cons, List.any_nil] at hB
        simp at hB
        simp only [hasL, List.any_cons, List.any_nil, linP, partE]
        by_cases q1 : 0 ≤ c ∧ c < 4 <;> by_cases q2 : 0 ≤ n ∧ n ≤ 4294967295 <;> by_cases q3 : b.length ≤ 2000
        all_goals first
          | (have e : (c < 0 ∨ 3 < c ∨ n < 0 ∨ 4294967295 < n ∨ 2000 < b.length) := by omega
             rw [if_pos e]; simp [q1, q2, q3, d1, d2]; done)
          | (have e : ¬ (c < 0 ∨ 3 < c ∨ n < 0 ∨ 4294967295 < n ∨ 2000 < b.length) := by omega
             rw [if_neg e]; simp [q1, q2, q3, d1, d2]; done)
          | (exfalso; simp [hB] at q1 q2 q3; done)
    · rw [if_neg hB, if_neg hB]
end Go.Proofs.Ytopeanaalnjghaa
