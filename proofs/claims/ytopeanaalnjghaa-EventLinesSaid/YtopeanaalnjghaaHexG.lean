/- What is proved: hex.figure, and the reference's figure. No conditions but the sizes. -/
import Derived.Test.YtopeanaalnjghaaHexF
namespace Go.Proofs.Ytopeanaalnjghaa
open Go.RowKit

/-- The number of a figure (0: it is none), and whether it is one. -/
def fv (c : Nat) : Nat := if 48 ≤ c ∧ c ≤ 57 then c - 48 else if 97 ≤ c ∧ c ≤ 102 then c - 87 else 0
def fk (c : Nat) : Bool := decide (48 ≤ c ∧ c ≤ 57) || decide (97 ≤ c ∧ c ≤ 102)

set_option maxHeartbeats 1000000 in
theorem figure_any (c : Nat) (w : World) (hc : c < 256) :
    Calls Try.prog 39 #[.int .u8 c] w fun e w' => e = .returned (.tuple #[.int .u8 (fv c : Nat), .bool (fk c)]) ∧ Old w w' := by
  by_cases h1 : 48 ≤ c ∧ c ≤ 57
  · have HV := Lib.hid (show fv c = c - 48 ∧ fk c = true by simp [fv, fk, h1])
    have i1 : decide (48 ≤ (c : Int)) = true := by simp; omega
    have i2 : decide ((c : Int) ≤ 57) = true := by simp; omega
    have j1 : IntKind.u8.wrap ((c : Int) - 48) = ((c - 48 : Nat) : Int) := by simp [IntKind.wrap, IntKind.bits, IntKind.signed]; omega
    generalize hd : c - 48 = d at *
    clear h1 hd
    go_enter Try.func39, Try.ntmps39
    go_wp2_with fail
    refine bodyPost_ret (v := .tuple #[.int .u8 (d : Nat), .bool true]) (by simp [results, Try.results39, go_sem]) rfl ⟨by rw [HV.out.1, HV.out.2], Old.refl _⟩
  by_cases h2 : 97 ≤ c ∧ c ≤ 102
  · have HV := Lib.hid (show fv c = c - 87 ∧ fk c = true by simp [fv, fk, h1, h2])
    have i1 : decide (48 ≤ (c : Int)) = true := by simp; omega
    have i2 : decide ((c : Int) ≤ 57) = false := by simp; omega
    have i3 : decide (97 ≤ (c : Int)) = true := by simp; omega
    have i4 : decide ((c : Int) ≤ 102) = true := by simp; omega
    have j1 : IntKind.u8.wrap ((c : Int) - 97) = (c : Int) - 97 := by simp [IntKind.wrap, IntKind.bits, IntKind.signed]; omega
    have j2 : IntKind.u8.wrap ((c : Int) - 97 + 10) = ((c - 87 : Nat) : Int) := by simp [IntKind.wrap, IntKind.bits, IntKind.signed]; omega
    generalize hd : c - 87 = d at *
    clear h1 h2 hd
    go_enter Try.func39, Try.ntmps39
    go_wp2_with fail
    refine bodyPost_ret (v := .tuple #[.int .u8 (d : Nat), .bool true]) (by simp [results, Try.results39, go_sem]) rfl ⟨by rw [HV.out.1, HV.out.2], Old.refl _⟩
  · have HV := Lib.hid (show fv c = 0 ∧ fk c = false by simp [fv, fk, h1, h2])
    have g1 : (decide (48 ≤ (c : Int)) && decide ((c : Int) ≤ 57)) = false := by
      by_cases h : 48 ≤ c
      · rw [decide_eq_false (by omega : ¬ ((c : Int) ≤ 57))]; simp
      · rw [decide_eq_false (by omega : ¬ (48 ≤ (c : Int)))]; simp
    have g2 : (decide (97 ≤ (c : Int)) && decide ((c : Int) ≤ 102)) = false := by
      by_cases h : 97 ≤ c
      · rw [decide_eq_false (by omega : ¬ ((c : Int) ≤ 102))]; simp
      · rw [decide_eq_false (by omega : ¬ (97 ≤ (c : Int)))]; simp
    clear h1 h2
    generalize e1 : decide (48 ≤ (c : Int)) = t1 at *
    generalize e2 : decide ((c : Int) ≤ 57) = t2 at *
    generalize e3 : decide (97 ≤ (c : Int)) = t3 at *
    generalize e4 : decide ((c : Int) ≤ 102) = t4 at *
    cases t1 <;> cases t2 <;> cases t3 <;> cases t4 <;> simp at g1 g2
    all_goals
      go_enter Try.func39, Try.ntmps39
      go_wp2_with fail
      refine bodyPost_ret (v := .tuple #[.int .u8 0, .bool false]) (by simp [results, Try.results39, go_sem]) rfl ⟨by rw [HV.out.1, HV.out.2]; rfl, Old.refl _⟩
end Go.Proofs.Ytopeanaalnjghaa
