/- What is proved: catwalkref15.First hands back the first bytes in a slice of its own. No conditions but the size. -/
import Derived.Test.YtledbilhdbndbaaLib
namespace Go.Proofs.Ytledbilhdbndbaa
open Go.RowKit

theorem Try.infoByteF : (Try.prog.info? 5).map (fun i => (i.zero, i.size, i.bytes)) = some (some (.int .u8 0), 1, 1) := by kernel_rfl

set_option maxHeartbeats 1000000 in
theorem first_any (a : Option Addr) (len c : Nat) (l : List Nat) (m : Nat) (z : Int) (w : World) (hz : z = (m : Int)) (hr : Row .u8 w a len c l) (hlen : len ≤ 100000000000000) :
    Calls Try.prog 15 #[.slice a len c, .int .i64 z] w (GivesOwn .u8 5 (l.take m) w) := by
  obtain rfl := hr.len
  subst hz
  go_enter Try.func15, Try.ntmps15
  go_wp2
  go_loopw [5, 6] (fun b i wr => ∃ k : Nat, k ≤ l.length ∧ k ≤ m ∧ i = .int .i64 k ∧ Owns .u8 5 w.heap.size wr b (l.take k) ∧ Old w wr) (fun _ i _ => l.length - (intOf i).toNat)
  case atStart => exact ⟨0, by omega, by omega, rfl, Owns.nil _ _ _ _, Old.refl _⟩
  case round =>
    obtain ⟨k, hk, hkm, rfl, hown, ho⟩ := hrel
    by_cases hlt : k < l.length
    · have i1 : decide ((k : Int) < (l.length : Int)) = true := by simp; omega
      by_cases hlm : k < m
      · have i2 : decide ((k : Int) < (m : Int)) = true := by simp; omega
        rcases hr.spot with hz | ⟨b1, o1, rfl, hc1⟩
        · omega
        have d1 := ho.cell (hc1 k hlt)
        have Hs := Lib.hid (take_snoc l k hlt)
        have hll : (l.take k).length ≤ 100000000000000 := by simp; omega
        clear hc1
        generalize nth l k = x at *
        generalize l.take k = bs at *
        go_wp2_with (at_builtin; refine append_row rfl _ _ 22 rfl .u8 5 1 Try.underlying22 Try.infoByteF w.heap.size _ _ _ rfl (by exact hown.alloc _) _ _ _ [x] rfl (by exact Row.lit' _ _ _ _ _ _ _ rfl rfl (by simp) (by simp [maxLen])) ?_ ?_ ?_ ?_; omega; omega; (have := ho.size; simp; omega); intro v1 w1 hown1 hgrow hbel)
        go_roundw
        case measure => simp [intOf]; omega
        case rel => exact ⟨k + 1, by omega, by omega, by go_num, by rw [Hs.out]; exact hown1, Below.trans (Old.trans ho (Old.alloc _ _)) hbel⟩
      · have i2 : decide ((k : Int) < (m : Int)) = false := by simp; omega
        obtain rfl : k = m := by omega
        go_wp2
        go_ret
        exact ⟨_, rfl, hown, ho⟩
    · have i1 : decide ((k : Int) < (l.length : Int)) = false := by simp; omega
      have e : l.take k = l.take m := by rw [List.take_of_length_le (by omega), List.take_of_length_le (by omega)]
      rw [e] at hown
      go_wp2
      go_ret
      exact ⟨_, rfl, hown, ho⟩
end Go.Proofs.Ytledbilhdbndbaa
