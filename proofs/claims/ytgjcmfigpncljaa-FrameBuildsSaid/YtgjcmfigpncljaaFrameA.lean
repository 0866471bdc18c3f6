/- What is proved: frame.Right and the reference's Right say alike which protocols may be. No conditions but the sizes. -/
import Derived.Test.YtgjcmfigpncljaaGet16
import Derived.IntWalk
namespace Go.Proofs.Ytgjcmfigpncljaa
open Go.RowKit

def rightB (p : Nat) : Bool := decide (p % 2 = 1) && decide (p / 256 % 2 = 0)
theorem u16_and1 (x : Nat) (hx : x < 65536) : bits BinOp.and IntKind.u16 (x : Int) 1 = ((x % 2 : Nat) : Int) := by
  have := bits_mask .u16 16 (by decide) wrapsU16 1 (by decide) x (by omega) (by omega)
  simpa using this

set_option maxHeartbeats 1000000 in
theorem right_any (p : Nat) (w : World) (hp : p < 65536) :
    Calls Try.prog 8 #[.int .u16 p] w fun e w' => e = .returned (.bool (rightB p)) ∧ Old w w' := by
  have h1 := u16_and1 p hp
  have h2 := u16_and1 (p / 256) (by omega)
  rw [Int.natCast_ediv] at h2
  simp only [Int.cast_ofNat_Int] at h2
  unfold rightB
  by_cases c1 : p % 2 = 1
  · have i1 : ((p % 2 : Nat) : Int) = 1 := by omega
    rw [i1] at h1
    have i2 : ((p : Int) / 256 % 2 == 0) = decide (p / 256 % 2 = 0) := by
      by_cases c2 : p / 256 % 2 = 0
      · rw [decide_eq_true c2]; simp; omega
      · rw [decide_eq_false c2]; simp; omega
    go_enter Try.func8, Try.ntmps8
    go_wp2_with fail
    go_ret
    exact ⟨by rw [decide_eq_true c1, Bool.true_and]; rfl, Old.refl _⟩
  · have i1 : ((p % 2 : Nat) : Int) = 0 := by omega
    rw [i1] at h1
    go_enter Try.func8, Try.ntmps8
    go_wp2_with fail
    go_ret
    exact ⟨by simp [c1], Old.refl _⟩

set_option maxHeartbeats 1000000 in
theorem rright_any (p : Nat) (w : World) (hp : p < 65536) :
    Calls Try.prog 9 #[.int .i64 p] w fun e w' => e = .returned (.bool (rightB p)) ∧ Old w w' := by
  have h1 : (p : Int).tmod 2 = ((p % 2 : Nat) : Int) := by rw [Int.tmod_eq_emod_of_nonneg (by omega)]; omega
  have h2 : (p : Int).tdiv 256 = ((p / 256 : Nat) : Int) := by rw [Int.tdiv_eq_ediv_of_nonneg (by omega)]; omega
  have h3 : ((p : Int) / 256).tmod 2 = (p : Int) / 256 % 2 := by rw [Int.tmod_eq_emod_of_nonneg (by omega)]
  have h4 : wrap64 ((p : Int) / 256) = (p : Int) / 256 := by simp only [wrap64]; omega
  unfold rightB
  by_cases c1 : p % 2 = 1
  · have i1 : ((p % 2 : Nat) : Int) = 1 := by omega
    rw [i1] at h1
    have i2 : ((p : Int) / 256 % 2 == 0) = decide (p / 256 % 2 = 0) := by
      by_cases c2 : p / 256 % 2 = 0
      · rw [decide_eq_true c2]; simp; omega
      · rw [decide_eq_false c2]; simp; omega
    go_enter Try.func9, Try.ntmps9
    go_wp2_with fail
    go_ret
    exact ⟨by rw [decide_eq_true c1, Bool.true_and]; rfl, Old.refl _⟩
  · have i1 : ((p % 2 : Nat) : Int) = 0 := by omega
    rw [i1] at h1
    go_enter Try.func9, Try.ntmps9
    go_wp2_with fail
    go_ret
    exact ⟨by simp [c1], Old.refl _⟩
end Go.Proofs.Ytgjcmfigpncljaa
