/- What is proved: addr.Next and addr.Host, and the reference's Host. No conditions but the sizes. -/
import Derived.Test.YtibiogkjmoaalaaAddrB
namespace Go.Proofs.Ytibiogkjmoaalaa
open Go.RowKit

theorem wrap_u32 (n : Int) (h : 0 ≤ n) (h1 : n < 4294967296) : IntKind.u32.wrap n = n := by simp [IntKind.wrap, IntKind.bits, IntKind.signed]; omega
theorem wrap_u64 (n : Int) (h : 0 ≤ n) (h1 : n < 18446744073709551616) : IntKind.u64.wrap n = n := by simp [IntKind.wrap, IntKind.bits, IntKind.signed]; omega

set_option maxHeartbeats 1000000 in
theorem next_no (a : Nat) (n : Int) (w : World) (ha : a < 4294967296) (h1 : n ≤ 9223372036854775807) (h : n < 0 ∨ 4294967295 - (a : Int) < n) :
    Calls Try.prog 5 #[.int .u32 a, .int .i64 n] w fun e w' => e = .returned (.tuple #[.int .u32 0, .bool false]) ∧ Old w w' := by
  by_cases h0 : n < 0
  · have i1 : decide (n < 0) = true := by simp; omega
    clear h
    go_enter Try.func5, Try.ntmps5
    go_wp2_with fail
    refine bodyPost_ret (v := .tuple #[.int .u32 0, .bool false]) (by simp [results, Try.results5, go_sem]) rfl ⟨rfl, Old.refl _⟩
  · have i1 : decide (n < 0) = false := by simp; omega
    have j1 := wrap_u64 n (by omega) (by omega)
    have j2 := wrap_u32 (4294967295 - (a : Int)) (by omega) (by omega)
    have j3 := wrap_u64 (4294967295 - (a : Int)) (by omega) (by omega)
    have i2 : decide (4294967295 - (a : Int) < n) = true := by simp; omega
    clear h
    go_enter Try.func5, Try.ntmps5
    go_wp2_with fail
    refine bodyPost_ret (v := .tuple #[.int .u32 0, .bool false]) (by simp [results, Try.results5, go_sem]) rfl ⟨rfl, Old.refl _⟩

set_option maxHeartbeats 1000000 in
theorem next_yes (a : Nat) (n : Int) (w : World) (ha : a < 4294967296) (h0 : 0 ≤ n) (h : n ≤ 4294967295 - (a : Int)) :
    Calls Try.prog 5 #[.int .u32 a, .int .i64 n] w fun e w' => e = .returned (.tuple #[.int .u32 ((a : Int) + n), .bool true]) ∧ Old w w' := by
  have i1 : decide (n < 0) = false := by simp; omega
  have j1 := wrap_u64 n (by omega) (by omega)
  have j2 := wrap_u32 (4294967295 - (a : Int)) (by omega) (by omega)
  have j3 := wrap_u64 (4294967295 - (a : Int)) (by omega) (by omega)
  have j4 := wrap_u32 n (by omega) (by omega)
  have j5 := wrap_u32 ((a : Int) + n) (by omega) (by omega)
  have i2 : decide (4294967295 - (a : Int) < n) = false := by simp; omega
  clear h h0
  go_enter Try.func5, Try.ntmps5
  go_wp2_with fail
  refine bodyPost_ret (v := .tuple #[.int .u32 ((a : Int) + n), .bool true]) (by simp [results, Try.results5, go_sem]) rfl ⟨rfl, Old.refl _⟩

def hostB (a : Nat) : Bool := decide (a / 16777216 ≠ 0) && (decide (a / 16777216 ≠ 127) && decide (a / 16777216 < 224))
theorem host_facts (t : Nat) : ((t : Int) != 0) = decide (t ≠ 0) ∧ ((t : Int) != 127) = decide (t ≠ 127) ∧ decide ((t : Int) < 224) = decide (t < 224) := by
  refine ⟨?_, ?_, ?_⟩
  · by_cases h : t = 0
    · subst h; rfl
    · rw [decide_eq_true h]; simp; omega
  · by_cases h : t = 127
    · subst h; rfl
    · rw [decide_eq_true h]; simp; omega
  · by_cases h : t < 224
    · rw [decide_eq_true h]; simp; omega
    · rw [decide_eq_false h]; simp; omega

set_option maxHeartbeats 1000000 in
theorem host_any (a : Nat) (w : World) : Calls Try.prog 6 #[.int .u32 a] w fun e w' => e = .returned (.bool (hostB a)) ∧ Old w w' := by
  unfold hostB
  have q : (a : Int) / 16777216 = ((a / 16777216 : Nat) : Int) := by omega
  generalize a / 16777216 = t at *
  obtain ⟨f1, f2, f3⟩ := host_facts t
  generalize decide (t ≠ 0) = c1 at *
  generalize decide (t ≠ 127) = c2 at *
  generalize decide (t < 224) = c3 at *
  cases c1
  · go_enter Try.func6, Try.ntmps6
    go_wp2_with fail
    go_ret
    exact ⟨rfl, Old.refl _⟩
  · cases c2
    · go_enter Try.func6, Try.ntmps6
      go_wp2_with fail
      go_ret
      exact ⟨rfl, Old.refl _⟩
    · go_enter Try.func6, Try.ntmps6
      go_wp2_with fail
      go_ret
      exact ⟨rfl, Old.refl _⟩

set_option maxHeartbeats 1000000 in
theorem rbytes_any (a : Nat) (w : World) (ha : a < 4294967296) :
    Calls Try.prog 13 #[.int .u32 a] w fun e w' => ∃ x y z : Int, e = .returned (.agg #[.int .u8 (a / 16777216 : Nat), .int .u8 x, .int .u8 y, .int .u8 z]) ∧ Old w w' := by
  have q1 : (a : Int).tdiv 16777216 = ((a / 16777216 : Nat) : Int) := by rw [Int.tdiv_eq_ediv_of_nonneg (by omega)]; omega
  have q2 : IntKind.u32.wrap (((a / 16777216 : Nat) : Int)) = ((a / 16777216 : Nat) : Int) := wrap_u32 _ (by omega) (by omega)
  have q3 : IntKind.u8.wrap (((a / 16777216 : Nat) : Int)) = ((a / 16777216 : Nat) : Int) := by simp [IntKind.wrap, IntKind.bits, IntKind.signed]; omega
  generalize ht : a / 16777216 = t at *
  go_enter Try.func13, Try.ntmps13
  go_wp2_with fail
  refine bodyPost_ret (v := .agg #[.int .u8 (t : Nat), .int .u8 ((a : Int) / 65536 % 256), .int .u8 ((a : Int) / 256 % 256), .int .u8 ((a : Int) % 256)]) (by simp [results, Try.results13, go_sem]) rfl ⟨_, _, _, rfl, Old.alloc _ _⟩

set_option maxHeartbeats 1000000 in
theorem rhost_any (a : Nat) (w : World) (ha : a < 4294967296) : Calls Try.prog 7 #[.int .u32 a] w fun e w' => e = .returned (.bool (hostB a)) ∧ Old w w' := by
  have C := Lib.hid (fun W => rbytes_any a W ha)
  unfold hostB
  generalize a / 16777216 = t at *
  obtain ⟨f1, f2, f3⟩ := host_facts t
  generalize decide (t ≠ 0) = c1 at *
  generalize decide (t ≠ 127) = c2 at *
  generalize decide (t < 224) = c3 at *
  cases c1
  · go_enter Try.func7, Try.ntmps7
    go_wp2_with fail
    refine (C.out _).mono ?_
    rintro e w1 ⟨x, y, z, rfl, k1⟩
    go_wp2_with fail
    go_ret
    exact ⟨rfl, Old.trans k1 (Old.alloc _ _)⟩
  · cases c2
    · go_enter Try.func7, Try.ntmps7
      go_wp2_with fail
      refine (C.out _).mono ?_
      rintro e w1 ⟨x, y, z, rfl, k1⟩
      go_wp2_with fail
      go_ret
      exact ⟨rfl, Old.trans k1 (Old.alloc _ _)⟩
    · go_enter Try.func7, Try.ntmps7
      go_wp2_with fail
      refine (C.out _).mono ?_
      rintro e w1 ⟨x, y, z, rfl, k1⟩
      go_wp2_with fail
      go_ret
      exact ⟨rfl, Old.trans k1 (Old.alloc _ _)⟩
end Go.Proofs.Ytibiogkjmoaalaa
