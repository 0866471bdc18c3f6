/- What is proved: catwalkref01.Num reads bytes as a number. No conditions but the size. -/
import Derived.Test.YtchndjccmgmpbaaLib
import Derived.Deep.QuietTactic
import Derived.BigQuiet
namespace Go.Proofs.Ytchndjccmgmpbaa
open Go.RowKit

/-- Bytes as a number, of 64 bits. -/
def numOf (l : List Nat) : Nat := l.foldl (fun n x => (256 * n + x) % 18446744073709551616) 0
theorem numOf_lt (l : List Nat) : numOf l < 18446744073709551616 := by
  have : ∀ (l : List Nat) (s : Nat), s < 18446744073709551616 → l.foldl (fun n x => (256 * n + x) % 18446744073709551616) s < 18446744073709551616 := by
    intro l
    induction l with
    | nil => intro s h; exact h
    | cons x l ih => intro s _; exact ih _ (Nat.mod_lt _ (by omega))
  exact this l 0 (by omega)

set_option maxHeartbeats 1000000 in
theorem num_any (a : Option Addr) (len c : Nat) (l : List Nat) (w : World) (hr : Row .u8 w a len c l) (hb : Bytes l) (hlen : len ≤ 100000000000000) :
    Calls Try.prog 20 #[.slice a len c] w fun e w' => e = .returned (.int .u64 (numOf l : Nat)) ∧ Old w w' := by
  obtain rfl := hr.len
  go_enter Try.func20, Try.ntmps20
  go_wp2
  go_loopw [3, 4] (fun s i wr => ∃ k : Nat, k ≤ l.length ∧ i = .int .i64 k ∧ s = .int .u64 (numOf (l.take k) : Nat) ∧ Old w wr) (fun _ i _ => l.length - (intOf i).toNat)
  case atStart => exact ⟨0, by omega, rfl, rfl, Old.refl _⟩
  case round =>
    obtain ⟨k, hk, rfl, rfl, ho⟩ := hrel
    have hs := numOf_lt (l.take k)
    by_cases hlt : k < l.length
    · have i1 : (k : Int) < (l.length : Int) := by omega
      rcases hr.spot with hz | ⟨b1, o1, rfl, hc1⟩
      · omega
      have d1 := ho.cell (hc1 k hlt)
      have Hs := Lib.hid (show numOf (l.take (k + 1)) = (256 * numOf (l.take k) + nth l k) % 18446744073709551616 by unfold numOf; rw [foldl_take_succ _ _ _ _ hlt])
      have hx := hb.at k
      clear hc1
      generalize nth l k = x at *
      generalize numOf (l.take k) = s at *
      go_wp2_with fail
      go_roundw
      case measure => simp [intOf]; omega
      case rel => exact ⟨k + 1, by omega, by go_num, by rw [Hs.out]; congr 1; simp only [IntKind.wrap, IntKind.bits, IntKind.signed]; simp, ho⟩
    · obtain rfl : k = l.length := by omega
      rw [List.take_length] at *
      go_wp2
      go_ret
      exact ⟨rfl, ho⟩
end Go.Proofs.Ytchndjccmgmpbaa
