/- What is proved: fsm.Step, fsm.Act.Has and the example. No conditions beyond those that each statement names. -/
import Derived.Test.YtfinkjcefggdcaaFsmD
import Derived.Deep.QuietTactic
import Derived.BigQuiet
import Derived.Laws.BitsAllLaws
namespace Go.Proofs.Ytfinkjcefggdcaa
open Go.RowKit

set_option maxHeartbeats 1000000 in
theorem step_in (s e : Nat) (hs : s < 10) (he : e < 16) (w : World) : Calls Try.prog 23 #[.int .i64 (s : Int), .int .i64 (e : Int)] w fun r w' => r = .returned (.tuple #[.int .i64 (nx s e : Nat), .int .u16 (ac s e : Nat)]) ∧ Old w w' := by
  have hix := fun w => tab_index s e hs he w
  have HT := Lib.hid (fun w => table_any e he w)
  have h1 : decide ((9 : Int) < (s : Int)) = false := by simp; omega
  have h2 : decide ((15 : Int) < (e : Int)) = false := by simp; omega
  generalize nx s e = n at *
  generalize ac s e = a at *
  generalize tabT e = T at *
  clear hs he
  go_enter Try.func23, Try.ntmps23
  go_wp2_with fail
  refine (HT.out _).mono ?_
  rintro r w1 ⟨rfl, k1⟩
  go_wp2_with fail
  go_quiet (fail)
  go_wp2_with fail
  go_ret2
  exact ⟨rfl, old_drewN (Old.trans k1 (Old.alloc _ _)) _⟩

/-- What a state becomes by an event, and what is done. -/
def stepS (s e : Int) : Int := if 0 ≤ s ∧ s ≤ 9 ∧ 0 ≤ e ∧ e ≤ 15 then (nx s.toNat e.toNat : Nat) else s
def stepA (s e : Int) : Nat := if 0 ≤ s ∧ s ≤ 9 ∧ 0 ≤ e ∧ e ≤ 15 then ac s.toNat e.toNat else 0

set_option maxHeartbeats 1000000 in
theorem step_out (s e : Int) (h : s < 0 ∨ (0 ≤ s ∧ 9 < s) ∨ (0 ≤ s ∧ s ≤ 9 ∧ e < 0) ∨ (0 ≤ s ∧ s ≤ 9 ∧ 0 ≤ e ∧ 15 < e)) (w : World) : Calls Try.prog 23 #[.int .i64 s, .int .i64 e] w fun r w' => r = .returned (.tuple #[.int .i64 s, .int .u16 0]) ∧ Old w w' := by
  rcases h with h | ⟨h, h1⟩ | ⟨h, h1, h2⟩ | ⟨h, h1, h2, h3⟩
  · have d1 : decide (s < 0) = true := by simpa using h
    clear h
    go_enter Try.func23, Try.ntmps23
    go_wp2_with fail
    go_ret2
    exact ⟨rfl, Old.refl _⟩
  · have d1 : decide (s < 0) = false := by simpa using h
    have d2 : decide (9 < s) = true := by simpa using h1
    clear h h1
    go_enter Try.func23, Try.ntmps23
    go_wp2_with fail
    go_ret2
    exact ⟨rfl, Old.refl _⟩
  · have d1 : decide (s < 0) = false := by simpa using h
    have d2 : decide (9 < s) = false := by simpa using h1
    have d3 : decide (e < 0) = true := by simpa using h2
    clear h h1 h2
    go_enter Try.func23, Try.ntmps23
    go_wp2_with fail
    go_ret2
    exact ⟨rfl, Old.refl _⟩
  · have d1 : decide (s < 0) = false := by simpa using h
    have d2 : decide (9 < s) = false := by simpa using h1
    have d3 : decide (e < 0) = false := by simpa using h2
    have d4 : decide (15 < e) = true := by simpa using h3
    clear h h1 h2 h3
    go_enter Try.func23, Try.ntmps23
    go_wp2_with fail
    go_ret2
    exact ⟨rfl, Old.refl _⟩

theorem step_any (s e : Int) (w : World) : Calls Try.prog 23 #[.int .i64 s, .int .i64 e] w fun r w' => r = .returned (.tuple #[.int .i64 (stepS s e), .int .u16 (stepA s e : Nat)]) ∧ Old w w' := by
  by_cases h : 0 ≤ s ∧ s ≤ 9 ∧ 0 ≤ e ∧ e ≤ 15
  · obtain ⟨h1, h2, h3, h4⟩ := h
    have e1 : stepS s e = (nx s.toNat e.toNat : Nat) := if_pos ⟨h1, h2, h3, h4⟩
    have e2 : stepA s e = ac s.toNat e.toNat := if_pos ⟨h1, h2, h3, h4⟩
    have k := step_in s.toNat e.toNat (by omega) (by omega) w
    rw [Int.toNat_of_nonneg h1, Int.toNat_of_nonneg h3] at k
    rw [e1, e2]
    exact k
  · have e1 : stepS s e = s := if_neg h
    have e2 : stepA s e = 0 := if_neg h
    rw [e1, e2]
    exact step_out s e (by omega) w

theorem ac_lt (s e : Nat) (hs : s < 10) (he : e < 16) : ac s e < 65536 := by
  have h : ∀ s : Fin 10, ∀ e : Fin 16, ac s.val e.val < 65536 := by decide
  exact h ⟨s, hs⟩ ⟨e, he⟩
theorem nx_lt (s e : Nat) (hs : s < 10) (he : e < 16) : nx s e < 10 := by
  have h : ∀ s : Fin 10, ∀ e : Fin 16, nx s.val e.val < 10 := by decide
  exact h ⟨s, hs⟩ ⟨e, he⟩
theorem stepA_lt (s e : Int) : stepA s e < 65536 := by
  unfold stepA
  split
  · exact ac_lt _ _ (by omega) (by omega)
  · omega

/-- Is one of some actions in a set? -/
def hasB (a l : Nat) : Bool := decide ((a &&& l) ≠ 0)
set_option maxHeartbeats 400000 in
theorem has_any (a l : Nat) (v : Bool) (ha : a < 65536) (hl : l < 65536) (hv : hasB a l = v) (w : World) : Calls Try.prog 19 #[.int .u16 (a : Int), .int .u16 (l : Int)] w fun r w' => r = .returned (.bool v) ∧ w = w' := by
  have hb := u16_and_nat a l ha hl
  have hx : (((a &&& l : Nat) : Int) != 0) = v := by
    rw [← hv]; unfold hasB
    rw [Bool.eq_iff_iff]; simp
  clear hv ha hl
  generalize a &&& l = x at *
  go_enter Try.func19, Try.ntmps19
  go_wp2_with fail
  go_ret
  exact ⟨rfl, rfl⟩

end Go.Proofs.Ytfinkjcefggdcaa
