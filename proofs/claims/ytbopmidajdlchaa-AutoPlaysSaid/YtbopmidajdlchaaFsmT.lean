/- What is proved: the reference's Step, whatever the state and the event; fsm.Timed. No conditions. -/
import Derived.Test.YtbopmidajdlchaaFsmH
namespace Go.Proofs.Ytbopmidajdlchaa
open Go.RowKit

set_option maxHeartbeats 1000000 in
theorem rstep_out (s e : Int) (h : s < 0 ∨ (0 ≤ s ∧ 9 < s) ∨ (0 ≤ s ∧ s ≤ 9 ∧ e < 0) ∨ (0 ≤ s ∧ s ≤ 9 ∧ 0 ≤ e ∧ 15 < e)) (w : World) : Calls Try.prog 18 #[.int .i64 s, .int .i64 e] w fun r w' => r = .returned (.tuple #[.int .i64 s, .int .i64 0]) ∧ Old w w' := by
  rcases h with h | ⟨h, h1⟩ | ⟨h, h1, h2⟩ | ⟨h, h1, h2, h3⟩
  · have d1 : decide (s < 0) = true := by simpa using h
    clear h
    go_enter Try.func18, Try.ntmps18
    go_wp2_with fail
    go_ret2
    exact ⟨rfl, Old.refl _⟩
  · have d1 : decide (s < 0) = false := by simpa using h
    have d2 : decide (9 < s) = true := by simpa using h1
    clear h h1
    go_enter Try.func18, Try.ntmps18
    go_wp2_with fail
    go_ret2
    exact ⟨rfl, Old.refl _⟩
  · have d1 : decide (s < 0) = false := by simpa using h
    have d2 : decide (9 < s) = false := by simpa using h1
    have d3 : decide (e < 0) = true := by simpa using h2
    clear h h1 h2
    go_enter Try.func18, Try.ntmps18
    go_wp2_with fail
    go_ret2
    exact ⟨rfl, Old.refl _⟩
  · have d1 : decide (s < 0) = false := by simpa using h
    have d2 : decide (9 < s) = false := by simpa using h1
    have d3 : decide (e < 0) = false := by simpa using h2
    have d4 : decide (15 < e) = true := by simpa using h3
    clear h h1 h2 h3
    go_enter Try.func18, Try.ntmps18
    go_wp2_with fail
    go_ret2
    exact ⟨rfl, Old.refl _⟩

theorem rstep_any (s e : Int) (w : World) : Calls Try.prog 18 #[.int .i64 s, .int .i64 e] w fun r w' => r = .returned (.tuple #[.int .i64 (stepS s e), .int .i64 (stepA s e : Nat)]) ∧ Old w w' := by
  by_cases h : 0 ≤ s ∧ s ≤ 9 ∧ 0 ≤ e ∧ e ≤ 15
  · obtain ⟨h1, h2, h3, h4⟩ := h
    have e1 : stepS s e = (nx s.toNat e.toNat : Nat) := if_pos ⟨h1, h2, h3, h4⟩
    have e2 : stepA s e = ac s.toNat e.toNat := if_pos ⟨h1, h2, h3, h4⟩
    have k := rstep_in s.toNat e.toNat (by omega) (by omega) w
    rw [Int.toNat_of_nonneg h1, Int.toNat_of_nonneg h3] at k
    rw [e1, e2]
    exact k
  · have e1 : stepS s e = s := if_neg h
    have e2 : stepA s e = 0 := if_neg h
    rw [e1, e2]
    exact rstep_out s e (by omega) w

/-- Does the time run in a state? -/
def timedB (s : Int) : Bool := decide (4 ≤ s) && decide (s ≤ 8)
set_option maxHeartbeats 400000 in
theorem timed_any (s : Int) (w : World) : Calls Try.prog 7 #[.int .i64 s] w fun r w' => r = .returned (.bool (timedB s)) ∧ w = w' := by
  by_cases h : 4 ≤ s
  · have h4 : decide (4 ≤ s) = true := by simpa using h
    by_cases k : s ≤ 8
    · have h8 : decide (s ≤ 8) = true := by simpa using k
      have HT : Hid (timedB s = true) := by show _ = _; simp [timedB, h, k]
      clear h k
      go_enter Try.func7, Try.ntmps7
      go_wp2_with fail
      go_ret
      exact ⟨by rw [HT.out]; rfl, rfl⟩
    · have h8 : decide (s ≤ 8) = false := by simpa using k
      have HT : Hid (timedB s = false) := by show _ = _; simp [timedB, h, k]
      clear h k
      go_enter Try.func7, Try.ntmps7
      go_wp2_with fail
      go_ret
      exact ⟨by rw [HT.out]; rfl, rfl⟩
  · have h4 : decide (4 ≤ s) = false := by simpa using h
    have HT : Hid (timedB s = false) := by show _ = _; simp [timedB, h]
    clear h
    go_enter Try.func7, Try.ntmps7
    go_wp2_with fail
    go_ret
    exact ⟨by rw [HT.out]; rfl, rfl⟩

end Go.Proofs.Ytbopmidajdlchaa
