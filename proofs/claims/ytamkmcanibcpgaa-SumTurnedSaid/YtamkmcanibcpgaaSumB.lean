/- What is proved: what sum.Of, sum.Right and alive give. No conditions beyond those that each statement names. -/
import Derived.Test.YtamkmcanibcpgaaSumA
namespace Go.Proofs.Ytamkmcanibcpgaa
open Go.RowKit

def sumOf (l : List Nat) : Nat := valueOf (addAll (0, false) l)

set_option maxHeartbeats 400000 in
theorem of_any (a : Option Addr) (len c : Nat) (l : List Nat) (w : World) (hr : Row .u8 w a len c l) (hb : Bytes l) :
    Calls Try.prog 10 #[.slice a len c] w fun e w' => e = .returned (.int .u16 (sumOf l : Nat)) ∧ Old w w' := by
  have hlt := addAll_lt l hb (0, false) (by decide)
  go_enter Try.func10, Try.ntmps10
  go_wp2_with fail
  refine (add_any 0 false a len c l _ (by omega) hr hb).mono ?_
  rintro e w1 ⟨rfl, ho⟩
  go_wp2_with fail
  refine (value_any _ _ _ hlt).mono ?_
  rintro e w2 ⟨rfl, ho2⟩
  go_wp2_with fail
  go_ret
  exact ⟨rfl, ho.trans ho2⟩

set_option maxHeartbeats 400000 in
theorem right_any (a : Option Addr) (len c : Nat) (l : List Nat) (w : World) (hr : Row .u8 w a len c l) (hb : Bytes l) :
    Calls Try.prog 11 #[.slice a len c] w fun e w' => e = .returned (.bool (decide (sumOf l = 0))) ∧ Old w w' := by
  go_enter Try.func11, Try.ntmps11
  go_wp2_with fail
  refine (of_any a len c l _ hr hb).mono ?_
  rintro e w1 ⟨rfl, ho⟩
  go_wp2_with fail
  go_ret
  exact ⟨by simp [Bool.beq_eq_decide_eq], ho⟩

set_option maxHeartbeats 400000 in
theorem alive_any (w : World) : Calls Try.prog 12 #[] w fun e w' => e = .returned (.bool true) ∧ Old w w' := by
  go_enter Try.func12, Try.ntmps12
  go_wp2_with fail
  refine (of_any _ 4 4 [0, 1, 242, 3] _ (Row.lit .u8 w 5 [0, 1, 242, 3] _ rfl (by decide)) (by simp [Bytes])).mono ?_
  rintro e w1 ⟨rfl, ho⟩
  go_wp2_with fail
  refine (of_any none 0 0 [] _ (Row.nil _ _) (by simp [Bytes])).mono ?_
  rintro e w2 ⟨rfl, ho2⟩
  go_wp2_with fail
  go_ret
  exact ⟨rfl, ((Old.alloc _ _).trans ho).trans ho2⟩
end Go.Proofs.Ytamkmcanibcpgaa
