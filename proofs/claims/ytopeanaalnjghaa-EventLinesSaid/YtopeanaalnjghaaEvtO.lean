/- What is proved: the reference's figure of chapter 45. No conditions but the size. -/
import Derived.Test.YtopeanaalnjghaaEvtL
import Derived.Test.YtopeanaalnjghaaHexG
namespace Go.Proofs.Ytopeanaalnjghaa
open Go.RowKit

set_option maxHeartbeats 1000000 in
theorem rfigure_any (c : Nat) (w : World) (hc : c < 256) :
    Calls Try.prog 35 #[.int .u8 c] w fun e w' => e = .returned (.int .u8 (fv c : Nat)) ∧ w = w' := by
  have hD : ∃ d : Nat, d = fv c ∧ ((¬ (48 : Int) ≤ (c : Int) ∧ ¬ (97 : Int) ≤ (c : Int) ∧ d = 0) ∨ ((48 : Int) ≤ (c : Int) ∧ (c : Int) < 58 ∧ IntKind.u8.wrap ((c : Int) - 48) = (d : Int)) ∨
      ((48 : Int) ≤ (c : Int) ∧ ¬ (c : Int) < 58 ∧ ¬ (97 : Int) ≤ (c : Int) ∧ d = 0) ∨ ((48 : Int) ≤ (c : Int) ∧ ¬ (c : Int) < 58 ∧ (97 : Int) ≤ (c : Int) ∧ (c : Int) < 103 ∧ IntKind.u8.wrap ((c : Int) - 87) = (d : Int)) ∨
      ((48 : Int) ≤ (c : Int) ∧ ¬ (c : Int) < 58 ∧ (97 : Int) ≤ (c : Int) ∧ ¬ (c : Int) < 103 ∧ d = 0)) := by
    refine ⟨_, rfl, ?_⟩
    simp only [fv, IntKind.wrap, IntKind.bits, IntKind.signed]
    by_cases h1 : 48 ≤ c ∧ c ≤ 57
    · rw [if_pos h1]; simp; omega
    · rw [if_neg h1]
      by_cases h2 : 97 ≤ c ∧ c ≤ 102
      · rw [if_pos h2]; simp; omega
      · rw [if_neg h2]; simp; omega
  obtain ⟨d, hd, hD⟩ := hD
  rw [← hd]
  clear hd
  rcases hD with ⟨h1, h2, rfl⟩ | ⟨h1, h2, h3⟩ | ⟨h1, h2, h3, rfl⟩ | ⟨h1, h2, h3, h4, h5⟩ | ⟨h1, h2, h3, h4, rfl⟩
  all_goals
    go_enter Try.func35, Try.ntmps35
    go_wp2_with fail
    go_ret
    exact ⟨rfl, rfl⟩
end Go.Proofs.Ytopeanaalnjghaa
