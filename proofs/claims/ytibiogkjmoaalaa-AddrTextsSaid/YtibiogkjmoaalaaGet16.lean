/- What is proved: be.Get16 reads two bytes as a number. No conditions but the size. -/
import Derived.Test.YtibiogkjmoaalaaLib
import Derived.Deep.QuietTactic
import Derived.BigQuiet
import Derived.Laws.BitsLemmas
namespace Go.Proofs.Ytibiogkjmoaalaa
open Go.RowKit

theorem wrapsU16 (n : Int) (h₀ : 0 ≤ n) (h₁ : n < 2 ^ 16) : IntKind.u16.wrap n = n := by
  have : IntKind.u16.wrap n = n % 65536 := by simp [IntKind.wrap, IntKind.bits, IntKind.signed]
  omega
theorem u16_or_low (x y : Nat) (hx : x < 256) (hy : y < 256) : bits BinOp.or IntKind.u16 ((x : Int) * 256) (y : Int) = ((x * 256 + y : Nat) : Int) := by
  rw [bits_join .u16 16 (by decide) wrapsU16 8 ((x : Int) * 256) y (by omega) (by omega) (by omega) (by omega) (by omega) (by omega)]
  omega

set_option maxHeartbeats 1000000 in
theorem get16_any (a : Option Addr) (len c : Nat) (l : List Nat) (w : World) (hr : Row .u8 w a len c l) (hb : Bytes l) :
    Calls Try.prog 23 #[.slice a len c] w fun e w' => e = .returned (.int .u16 ((if 2 ≤ len then nth l 0 * 256 + nth l 1 else 0 : Nat) : Int)) ∧ Old w w' := by
  obtain rfl := hr.len
  by_cases h2 : 2 ≤ l.length
  · rw [if_pos h2]
    have i1 : decide ((l.length : Int) < 2) = false := by simp; omega
    rcases hr.spot with hz | ⟨b1, o1, rfl, hc1⟩
    · omega
    have d0 := hc1 0 (by omega)
    have d1 := hc1 1 (by omega)
    rw [Nat.add_zero] at d0
    have x0 := hb.at 0
    have x1 := hb.at 1
    have i2 : (0 : Int) < (l.length : Int) := by omega
    have i3 : (1 : Int) < (l.length : Int) := by omega
    clear hc1
    generalize nth l 0 = x at *
    generalize nth l 1 = y at *
    have hor := u16_or_low x y x0 x1
    go_enter Try.func23, Try.ntmps23
    go_wp2_with fail
    go_quiet (fail)
    go_wp2
    go_ret
    exact ⟨rfl, old_drewN (Old.refl _) _⟩
  · rw [if_neg h2]
    have i1 : decide ((l.length : Int) < 2) = true := by simp; omega
    go_enter Try.func23, Try.ntmps23
    go_wp2
    go_ret
    exact ⟨rfl, Old.refl _⟩
end Go.Proofs.Ytibiogkjmoaalaa
