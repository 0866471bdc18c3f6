/- What is proved: chap.Bytes hands back the bytes of its numbers. No conditions but the size. -/
import Derived.Test.YtippiojhfdnlgaaPut
namespace Go.Proofs.Ytippiojhfdnlgaa
open Go.RowKit

theorem be4 (n : Nat) (h : n < 4294967296) : beOf 4 n = [n / 16777216, n / 65536 % 256, n / 256 % 256, n % 256] := by
  simp [beOf, List.range_succ]
  omega
def bytesOf (l : List Nat) : List Nat := l.flatMap (beOf 4)
theorem bytesOf_take (l : List Nat) (k : Nat) (h : k < l.length) : bytesOf (l.take (k + 1)) = bytesOf (l.take k) ++ beOf 4 (nth l k) := by
  rw [take_snoc l k h]; simp [bytesOf]
theorem bytesOf_len (l : List Nat) : (bytesOf l).length = 4 * l.length := by
  induction l with
  | nil => rfl
  | cons x l ih => simp [bytesOf, beOf_len] at ih ⊢; omega

set_option maxHeartbeats 1000000 in
theorem bytes_any (a : Option Addr) (len c : Nat) (l : List Nat) (w : World) (hlen : len ≤ 1000000) (hr : Row .u32 w a len c l) (hb : ∀ x ∈ l, x < 4294967296) :
    Calls Try.prog 9 #[.slice a len c] w (GivesOwn .u8 5 (bytesOf l) w) := by
  obtain rfl := hr.len
  go_enter Try.func9, Try.ntmps9
  go_wp2
  go_loopw [3, 8] (fun b i wr => ∃ k : Nat, k ≤ l.length ∧ i = .int .i64 k ∧ Owns .u8 5 w.heap.size wr b (bytesOf (l.take k)) ∧ Old w wr) (fun _ i _ => l.length - (intOf i).toNat)
  case atStart => exact ⟨0, by omega, rfl, Owns.nil _ _ _ _, Old.refl _⟩
  case round =>
    obtain ⟨k, hk, rfl, hown, ho⟩ := hrel
    by_cases hlt : k < l.length
    · rcases hr.spot with hz | ⟨b1, o1, rfl, hc1⟩
      · omega
      have d1 := ho.cell (hc1 k hlt)
      have Hs := Lib.hid (bytesOf_take l k hlt)
      have hx : nth l k < 4294967296 := by rw [nth_eq l k hlt]; exact hb _ (List.getElem_mem hlt)
      have i1 : (k : Int) < (l.length : Int) := by omega
      have hll := bytesOf_len (l.take k)
      rw [be4 _ hx] at Hs
      have hml : (l.take k).length ≤ 1000000 := by simp; omega
      clear hc1
      generalize nth l k = x at *
      go_wp2_with (at_builtin; refine append_row rfl _ _ 23 rfl .u8 5 1 Try.underlying23 Try.infoByteP w.heap.size _ _ _ rfl (by exact hown.alloc _) _ _ _ [x / 16777216, x / 65536 % 256, x / 256 % 256, x % 256] rfl (by exact Row.lit' _ _ _ _ _ _ _ rfl rfl (by simp) (by simp [maxLen])) ?_ ?_ ?_ ?_; (rw [hll]; omega); (rw [hll]; omega); (have := ho.size; simp; omega); intro v1 w1 hown1 hgrow hbel)
      go_roundw
      case measure => simp [intOf]; omega
      case rel => exact ⟨k + 1, by omega, by go_num, by rw [Hs.out]; exact hown1, Below.trans (Old.trans ho (Old.alloc _ _)) hbel⟩
    · obtain rfl : k = l.length := by omega
      rw [List.take_length] at hown
      go_wp2
      go_ret
      exact ⟨_, rfl, hown, ho⟩
end Go.Proofs.Ytippiojhfdnlgaa
