/- What is proved: the reference's place and row. No conditions beyond those that each statement names. -/
import Derived.Test.YtbopmidajdlchaaFsmE
import Derived.Test.YtbopmidajdlchaaWords
import Derived.Outline
namespace Go.Proofs.Ytbopmidajdlchaa
open Go.RowKit

def letL : List Nat := [117, 100, 115, 102, 105, 122, 114, 97, 110, 116, 107, 106, 101]
theorem let_eq (k i : Nat) (hk : k < 13) (hi : i < 13) : (nth letL i = nth letL k) = (i = k) := by
  have h : ∀ k i : Fin 13, (nth letL i.val = nth letL k.val) ↔ (i.val = k.val) := by decide
  exact propext (h ⟨k, hk⟩ ⟨i, hi⟩)

set_option maxHeartbeats 400000 in
theorem place_any (k : Nat) (hk : k < 13) (w : World) : Calls Try.prog 23 #[.int .u8 (nth letL k : Nat)] w fun e w' => e = .returned (.int .i64 (k : Int)) ∧ w = w' := by
  have hs := sb_at ⟨#[117, 100, 115, 102, 105, 122, 114, 97, 110, 116, 107, 106, 101]⟩
  have hz : (ByteArray.mk #[117, 100, 115, 102, 105, 122, 114, 97, 110, 116, 107, 106, 101]).size = 13 := rfl
  have hb : sb ⟨#[117, 100, 115, 102, 105, 122, 114, 97, 110, 116, 107, 106, 101]⟩ = letL := rfl
  rw [hb] at hs
  clear hb
  go_enter Try.func23, Try.ntmps23
  go_wp2_with fail
  generalize (ByteArray.mk #[117, 100, 115, 102, 105, 122, 114, 97, 110, 116, 107, 106, 101]) = s at *
  go_loop [4] (fun v => ∃ i : Nat, i ≤ k ∧ v = .int .i64 i) (fun i => 13 - (intOf i).toNat)
  case atStart => exact ⟨0, by omega, rfl⟩
  case round =>
    obtain ⟨i, hi, rfl⟩ := hrel
    have hx := hs i (by omega)
    have hi13 : (i : Int) < (s.size : Int) := by omega
    have hi14 : i < s.size := by omega
    have i6 : IntKind.i64.wrap ((i : Int) + 1) = (i : Int) + 1 := IntWalk.i64_in _ (by omega)
    have hq := let_eq k i hk (by omega)
    clear hs
    by_cases he : i = k
    · subst he
      have j1 : ((nth letL i : Int) == (nth letL i : Int)) = true := by simp
      clear hq
      generalize nth letL i = x at *
      go_wp2_with fail
      go_ret
      exact ⟨rfl, rfl⟩
    · have j1 : ((nth letL i : Int) == (nth letL k : Int)) = false := by rw [beq_eq_false_iff_ne]; intro e; exact he (hq.mp (by omega))
      clear hq
      generalize nth letL i = x at *
      generalize nth letL k = y at *
      go_wp2_with fail
      go_round
      case measure => simp [intOf]; omega
      case rel => exact ⟨i + 1, by omega, by go_num⟩
end Go.Proofs.Ytbopmidajdlchaa
