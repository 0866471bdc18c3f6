/- What is proved: the reference's figure. No conditions but the sizes. -/
import Derived.Test.YtopeanaalnjghaaConv1
import Derived.Test.YtopeanaalnjghaaHexF
namespace Go.Proofs.Ytopeanaalnjghaa
open Go.RowKit

set_option maxHeartbeats 1000000 in
theorem rfig_any (n : Nat) (w : World) (hn : n < 16) :
    Calls Try.prog 38 #[.int .i64 n] w fun e w' => e = .returned (.string (str [fig n])) ∧ Old w w' := by
  by_cases h : n < 10
  · have HF := Lib.hid (show fig n = 48 + n by simp [fig, h])
    have i1 : decide ((n : Int) < 10) = true := by simp; omega
    have m2 : IntKind.i64.wrap (48 + (n : Int)) = 48 + (n : Int) := IntWalk.i64_in _ (by omega)
    have m3 : IntKind.u8.wrap (48 + (n : Int)) = 48 + (n : Int) := by simp [IntKind.wrap, IntKind.bits, IntKind.signed]; omega
    have k1 := fun W => conv1 W (48 + n) (by omega)
    rw [show ((48 + n : Nat) : Int) = 48 + (n : Int) by omega] at k1
    clear h
    go_enter Try.func38, Try.ntmps38
    go_wp2_with fail
    go_ret
    exact ⟨by rw [HF.out]; rfl, Old.alloc _ _⟩
  · have HF := Lib.hid (show fig n = 87 + n by simp [fig, h])
    have i1 : decide ((n : Int) < 10) = false := by simp; omega
    have m2 : IntKind.i64.wrap (87 + (n : Int)) = 87 + (n : Int) := IntWalk.i64_in _ (by omega)
    have m3 : IntKind.u8.wrap (87 + (n : Int)) = 87 + (n : Int) := by simp [IntKind.wrap, IntKind.bits, IntKind.signed]; omega
    have k1 := fun W => conv1 W (87 + n) (by omega)
    rw [show ((87 + n : Nat) : Int) = 87 + (n : Int) by omega] at k1
    clear h
    go_enter Try.func38, Try.ntmps38
    go_wp2_with fail
    go_ret
    exact ⟨by rw [HF.out]; rfl, Old.alloc _ _⟩
end Go.Proofs.Ytopeanaalnjghaa
