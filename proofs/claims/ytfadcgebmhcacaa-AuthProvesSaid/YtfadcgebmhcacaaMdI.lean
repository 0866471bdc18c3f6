/- What is proved: the reference's small functions. No conditions beyond those that each statement names. -/
import Derived.Test.YtfadcgebmhcacaaBRowsM
import Derived.Outline
import Derived.Deep.QuietTactic
import Derived.BigQuiet
namespace Go.Proofs.Ytfadcgebmhcacaa
open Go.RowKit

set_option maxHeartbeats 400000 in
theorem cut_any (n : Nat) (w : World) (hn : n < 1000000000000) : Calls Try.prog 53 #[.int .u64 (n : Int)] w fun e w' => e = .returned (.int .u64 (n % 4294967296 : Nat)) ∧ w = w' := by
  go_enter Try.func53, Try.ntmps53
  go_wp2_with fail
  go_ret
  exact ⟨ret_int (by omega), rfl⟩
set_option maxHeartbeats 400000 in
theorem not_any (n : Nat) (w : World) (hn : n < 4294967296) : Calls Try.prog 62 #[.int .u64 (n : Int)] w fun e w' => e = .returned (.int .u64 (not32 n : Nat)) ∧ w = w' := by
  have HN : Hid (not32 n = 4294967295 - n) := rfl
  go_enter Try.func62, Try.ntmps62
  go_wp2_with fail
  go_ret
  exact ⟨ret_int (by rw [HN.out]; omega), rfl⟩
theorem rotN_zero (x : Nat) (hx : x < 4294967296) : rotN x 0 = x := by
  unfold rotN
  rw [show (2 : Nat) ^ 0 = 1 from rfl, show (2 : Nat) ^ (32 - 0) = 4294967296 from rfl]
  omega
theorem rotN_lt0 (x k : Nat) (hx : x < 4294967296) (hk2 : k ≤ 31) : rotN x k < 4294967296 := by
  by_cases h : k = 0
  · subst h; rw [rotN_zero x hx]; exact hx
  · exact rotN_lt x k hx (by omega) hk2
set_option maxHeartbeats 1000000 in
theorem roll_any (x k : Nat) (w : World) (hx : x < 4294967296) (hk : k ≤ 31) : Calls Try.prog 58 #[.int .u64 (x : Int), .int .i64 (k : Int)] w fun e w' => e = .returned (.int .u64 (rotN x k : Nat)) ∧ w = w' := by
  go_enter Try.func58, Try.ntmps58
  go_wp2_with fail
  go_loop [0, 5] (fun s0 s5 => ∃ j : Nat, j ≤ k ∧ s5 = .int .i64 j ∧ s0 = .int .u64 (rotN x j : Nat)) (fun _ s5 => k - (intOf s5).toNat)
  case atStart => exact ⟨0, by omega, rfl, by rw [rotN_zero x hx]⟩
  case round =>
    obtain ⟨j, hj, rfl, rfl⟩ := hrel
    have hl := rotN_lt0 x j hx (by omega)
    by_cases hlt : j < k
    · have HS := Lib.hid (rotN_succ x j hx (by omega))
      have j1 : (j : Int) < (k : Int) := by omega
      have j2 : decide (j < k) = true := by simpa using hlt
      generalize rotN x j = y at *
      go_wp2_with fail
      go_round
      case measure => simp [intOf]; omega
      case rel => exact ⟨j + 1, by omega, by go_num, by rw [← HS.out]; simp⟩
    · obtain rfl : j = k := by omega
      have j2 : decide (j < j) = false := by simp
      go_wp2_with fail
      go_ret
      exact ⟨rfl, rfl⟩

set_option maxHeartbeats 1000000 in
theorem rbits_any (i : Nat) (w : World) (hi : i < 64) : Calls Try.prog 59 #[.int .i64 (i : Int)] w fun e w' => e = .returned (.int .i64 (nth rT i : Nat)) ∧ Old w w' := by
  have hz : ∀ w, (zeroValue 110).run Try.prog w = .ok (.agg zero16i) w := fun _ => by kernel_rfl
  have hinfo : (Try.prog.info? 110).map (·.size) = some (cellsN .i64 rL).size := by kernel_rfl
  have hzs : zero16i.size = (cellsN .i64 rL).size := by kernel_rfl
  have hone := cellsN_one .i64 rL
  have hw0 : Whole (w.alloc (.cells zero16i 110)) w.heap.size 110 zero16i := Whole.new _ _ _
  have hcell := cellsN_at .i64 rL (i / 16 * 4 + i % 4) (by show _ < 16; omega)
  rw [rL_at i hi] at hcell
  have HC := Lib.hid hcell
  obtain ⟨p, hp⟩ : ∃ p, p = i / 16 := ⟨_, rfl⟩
  obtain ⟨q, hq⟩ : ∃ q, q = i % 4 := ⟨_, rfl⟩
  rw [← hp, ← hq] at HC
  have d1 : (i : Int) / 16 = (p : Int) := by omega
  have d2 : (i : Int) % 4 = (q : Int) := by omega
  have d3 : (p : Int) < 4 := by omega
  have d4 : (q : Int) < 4 := by omega
  have d5 : p < 4 := by omega
  have d6 : q < 4 := by omega
  have d7 : (4 * (p : Int) + (q : Int)).toNat = p * 4 + q := by omega
  have d8 : (0 : Int) ≤ 4 * (p : Int) + (q : Int) := by omega
  have d9 : 4 * (p : Int) + (q : Int) < 16 := by omega
  clear hcell hp hq
  generalize nth rT i = R at *
  go_enter Try.func59, Try.ntmps59
  go_wp2_with (first | (refine build_run rfl 110 _ rfl (.agg (cellsN .i64 rL)) (fun _ => by kernel_rfl) ?_) | (refine store_whole rfl 110 _ _ rfl w.heap.size (cellsN .i64 rL) rfl rfl _ zero16i hw0 hinfo hzs hone ?_; intro w4 hw4 hk4; have hc4 := (hw4.cell (p * 4 + q)).trans HC.out))
  go_ret
  exact ⟨rfl, Below.trans (Old.alloc _ _) (hk4.below (B := w.heap.size) (by simp) (fun i hi => by omega))⟩

set_option maxRecDepth 100000 in
set_option maxHeartbeats 1000000 in
theorem rk_any (i : Nat) (w : World) (hi : i < 64) : Calls Try.prog 55 #[.int .i64 (i : Int)] w fun e w' => e = .returned (.int .u64 (nth kT i : Nat)) ∧ Old w w' := by
  have hz : ∀ w, (zeroValue 108).run Try.prog w = .ok (.agg (cellsN .u64 (List.replicate 64 0))) w := fun _ => by kernel_rfl
  have hinfo : (Try.prog.info? 108).map (·.size) = some (cellsN .u64 kT).size := by kernel_rfl
  have hzs : (cellsN .u64 (List.replicate 64 0)).size = (cellsN .u64 kT).size := by kernel_rfl
  have hone := cellsN_one .u64 kT
  have hw0 : Whole (w.alloc (.cells (cellsN .u64 (List.replicate 64 0)) 108)) w.heap.size 108 (cellsN .u64 (List.replicate 64 0)) := Whole.new _ _ _
  have hcell := cellsN_at .u64 kT i (by show _ < 64; omega)
  have HC := Lib.hid hcell
  have hi2 : (i : Int) < 64 := by omega
  clear hcell
  generalize cellsN .u64 (List.replicate 64 0) = Z at *
  generalize nth kT i = R at *
  go_enter Try.func55, Try.ntmps55
  go_wp2_with (first | (refine build_run rfl 108 _ rfl (.agg (cellsN .u64 kT)) (fun _ => by kernel_rfl) ?_) | (refine store_whole rfl 108 _ _ rfl w.heap.size (cellsN .u64 kT) rfl rfl _ Z hw0 hinfo hzs hone ?_; intro w4 hw4 hk4; have hc4 := (hw4.cell i).trans HC.out))
  go_ret
  exact ⟨rfl, Below.trans (Old.alloc _ _) (hk4.below (B := w.heap.size) (by simp) (fun i hi => by omega))⟩
end Go.Proofs.Ytfadcgebmhcacaa
