/- What is proved: lopt.size and the reference's; what lopt would rather have (better); which options the reference calls bad. No conditions beyond those that each statement names. -/
import Derived.Test.YtobngpkmbcabfaaWord
import Derived.Test.YtobngpkmbcabfaaOpts
import Derived.Test.YtobngpkmbcabfaaPut
import Derived.Test.YtobngpkmbcabfaaPut16
import Derived.Deep.QuietTactic
import Derived.BigQuiet
namespace Go.Proofs.Ytobngpkmbcabfaa
open Go.RowKit

/-- How many bytes of data an option of a type has; below 0: it is not known. -/
def sizeT (t : Nat) : Int := if t = 1 then 2 else if t = 2 ∨ t = 5 then 4 else if t = 7 ∨ t = 8 then 0 else -1
theorem sizeT_bd (t : Nat) : -1 ≤ sizeT t ∧ sizeT t ≤ 4 := by
  unfold sizeT
  split
  · omega
  · split
    · omega
    · split <;> omega

set_option maxHeartbeats 1000000 in
theorem size_any (t : Nat) (w : World) (h : t < 256) : Calls Try.prog 20 #[.int .u8 t] w fun e w' => e = .returned (.int .i64 (sizeT t)) ∧ w = w' := by
  by_cases h1 : t = 1
  · subst h1
    go_enter Try.func20, Try.ntmps20
    go_wp2
    go_ret
    exact ⟨rfl, rfl⟩
  by_cases h2 : t = 2
  · subst h2
    go_enter Try.func20, Try.ntmps20
    go_wp2
    go_ret
    exact ⟨rfl, rfl⟩
  by_cases h5 : t = 5
  · subst h5
    go_enter Try.func20, Try.ntmps20
    go_wp2
    go_ret
    exact ⟨rfl, rfl⟩
  by_cases h7 : t = 7
  · subst h7
    go_enter Try.func20, Try.ntmps20
    go_wp2
    go_ret
    exact ⟨rfl, rfl⟩
  by_cases h8 : t = 8
  · subst h8
    go_enter Try.func20, Try.ntmps20
    go_wp2
    go_ret
    exact ⟨rfl, rfl⟩
  have e1 : ((t : Int) == 1) = false := by rw [beq_eq_false_iff_ne]; omega
  have e2 : ((t : Int) == 2) = false := by rw [beq_eq_false_iff_ne]; omega
  have e5 : ((t : Int) == 5) = false := by rw [beq_eq_false_iff_ne]; omega
  have e7 : ((t : Int) == 7) = false := by rw [beq_eq_false_iff_ne]; omega
  have e8 : ((t : Int) == 8) = false := by rw [beq_eq_false_iff_ne]; omega
  have hs : sizeT t = -1 := by unfold sizeT; rw [if_neg h1, if_neg (by omega), if_neg (by omega)]
  have HS := Lib.hid hs
  clear hs h1 h2 h5 h7 h8
  go_enter Try.func20, Try.ntmps20
  go_wp2
  go_ret
  exact ⟨by rw [HS.out]; rfl, rfl⟩

set_option maxHeartbeats 1000000 in
theorem rsize_any (t : Nat) (w : World) (h : t < 256) : Calls Try.prog 32 #[.int .u8 t] w fun e w' => e = .returned (.int .i64 (sizeT t)) ∧ Old w w' := by
  by_cases h8 : 8 < t
  · have e1 : decide (8 < (t : Int)) = true := by simp; omega
    have hs : sizeT t = -1 := by unfold sizeT; rw [if_neg (by omega), if_neg (by omega), if_neg (by omega)]
    have HS := Lib.hid hs
    clear hs
    go_enter Try.func32, Try.ntmps32
    go_wp2
    go_ret
    exact ⟨by rw [HS.out]; rfl, Old.alloc _ _⟩
  have hc : t = 0 ∨ t = 1 ∨ t = 2 ∨ t = 3 ∨ t = 4 ∨ t = 5 ∨ t = 6 ∨ t = 7 ∨ t = 8 := by omega
  clear h8 h
  rcases hc with rfl | rfl | rfl | rfl | rfl | rfl | rfl | rfl | rfl
  all_goals
    go_enter Try.func32, Try.ntmps32
    go_wp2
    go_ret
    exact ⟨rfl, Old.alloc _ _⟩

end Go.Proofs.Ytobngpkmbcabfaa
